/- The walk of DeedThere. Printed by gen_there.py. -/
import Derived.Test.YtofgmijmhpmabaaGreatDoorDLives
import Derived.Test.YtofgmijmhpmabaaGreatDoorDSame
import Derived.Test.YtofgmijmhpmabaaGreatDoorDSizes
import Derived.Deep.CutRange
import Derived.Great.BuildSlice
namespace Go.Proofs.YtofgmijmhpmabaaGreatDoor.D
open Go Go.RowKit
set_option linter.unusedVariables false
set_option linter.unusedSimpArgs false
/-- What a region finds: a state in a box, an event in a box; what was there before stays. -/
structure TwH (B : World) (gx : Nat) (cx : Array Value) (ge : Nat) (ce : Array Value) (w : World) : Prop where
  bl : Below B.heap.size B w
  bx : G.Blk w gx 27 cx
  be : G.Blk w ge 30 ce
  sx : cx.size = 7
  se : ce.size = 12
  lx : gx < B.heap.size
  le : ge < B.heap.size
theorem TwH.below {B : World} {gx ge : Nat} {cx ce : Array Value} {w w' : World} (h : TwH B gx cx ge ce w) (hb : Below w.heap.size w w') : TwH B gx cx ge ce w' := ⟨G.bl_trans h.bl hb, h.bx.below hb h.bx.lt, h.be.below hb h.be.lt, h.sx, h.se, h.lx, h.le⟩
theorem TwH.row {B : World} {gx ge g2 : Nat} {cx ce ds : Array Value} {w : World} (h : TwH B gx cx ge ce w) (hg : B.heap.size ≤ g2) : TwH B gx cx ge ce (w.setRow g2 ds) :=
  ⟨below_setRow h.bl hg _, (setRow_other w g2 gx ds (by have := h.lx; omega)).trans h.bx, (setRow_other w g2 ge ds (by have := h.le; omega)).trans h.be, h.sx, h.se, h.lx, h.le⟩
def CallRel (B : World) (s : St) (o : Option St) (sp sk : Value) (wx : World) : Prop :=
  ∃ (g : Nat) (x : SV) (t : St) (k : Int), sp = .pointer (some ⟨g, 0, none⟩) ∧ sk = .int .i64 k ∧ G.Blk wx g 27 (x.arr t) ∧ RdSt wx x t ∧ Below B.heap.size B wx ∧
    ((k = 0 ∧ May s ∧ o = some t) ∨ (k = 11 ∧ May s ∧ o = none ∧ t = zeroSt) ∨ (k = 10 ∧ ¬ May s ∧ t = zeroSt))
theorem callRel_mk {B wA : World} {s : St} {o : Option St} {g base : Nat} {x : SV} {t : St} {k : Int} {zs : Array Value} (ho : OwnSt wA base x t) (hb : Below B.heap.size B (wA.setRow g (x.arr t))) (hB : G.Blk wA g 27 zs) (hg : B.heap.size ≤ g)
    (hc : (k = 0 ∧ May s ∧ o = some t) ∨ (k = 11 ∧ May s ∧ o = none ∧ t = zeroSt ∧ x = zeroSV) ∨ (k = 10 ∧ ¬ May s ∧ t = zeroSt ∧ x = zeroSV)) : CallRel B s o (.pointer (some ⟨g, 0, none⟩)) (.int .i64 k) (wA.setRow g (x.arr t)) :=
  ⟨g, x, t, k, rfl, rfl, setRow_heap _ _ _ _ _ _ hB, (ho.only (only_row hB) (by decide) (by decide) (by decide) (by decide)).rd, hb, hc.imp id (fun h => h.imp (fun ⟨a, b, c, d, _⟩ => ⟨a, b, c, d⟩) (fun ⟨a, b, c, _⟩ => ⟨a, b, c⟩))⟩
theorem infoEv : (Tryz.prog.info? 30).map (fun i => (i.zero, i.size, i.bytes)) = some (some (Value.agg zeroE), 12, 96) := by kernel_rfl
theorem fill_ev (y : EV) (e : Ev) : Instr.fill (fun i => some (i * 12, 12)) ((Array.range (1 * 12)).map ((Value.agg zeroE).cells[· % (Value.agg zeroE).cells.size]!)) [(0, .agg (y.arr e))] = some (y.arr e) := by kernel_rfl
theorem fill_evs {ce : Array Value} {y : EV} {e : Ev} {n : Nat} (h : ce = y.arr e) (hn : n = 12) : Instr.fill (fun i => some (i * n, n)) ((Array.range (1 * n)).map ((Value.agg zeroE).cells[· % (Value.agg zeroE).cells.size]!)) [(0, .agg ce)] = some ce := by
  subst h hn
  exact fill_ev y e
theorem wpList_buildOne {P : Program} {ops : Array Oper} {rest : List Oper} {o : Oper} {a : Act} {w : World} {Q : Exit → Act → World → Prop} (hg : o.guard = none) (t e : TypeId) (x : Operand) (ho : o.op = .buildSlice t 1 #[(0, x)])
    (cells : Array Value) (hx : a.eval x = .agg cells) (ie : TypeInfo) (z : Value)
    (hu : P.underlying t = some (.slice e)) (hie : P.info? e = some ie) (hz : ie.zero = some z) (hsmall : ¬ 1 * ie.size > 2 ^ 24) (hpos : ¬ 1 * ie.size = 0)
    (hf : Instr.fill (fun i => some (i * ie.size, ie.size)) ((Array.range (1 * ie.size)).map (z.cells[· % z.cells.size]!)) [(0, .agg cells)] = some cells)
    (h : wpList P ops Q rest (a.put o.dst (.slice (some ⟨w.heap.size, 0, none⟩) 1 1)) (w.alloc (.cells cells e))) : wpList P ops Q (o :: rest) a w := by
  refine wpList_buildSlice hg t e 1 _ ho cells ie z hu hie hz hsmall hpos ?_ h
  have e1 : ((#[(0, x)] : Array (Nat × Operand)).map fun (i, x) => (i, a.eval x)).toList = [(0, .agg cells)] := by simp [hx]
  rw [e1]
  exact hf
theorem zero_sz : Sz zeroSt := ⟨by decide, by decide, by decide, fun i => by simp [zeroSt]⟩
set_option maxRecDepth 100000 in
set_option maxHeartbeats 32000000 in
theorem there_short (x : SV) (s : St) (y : EV) (e : Ev) (w : World) (h : RdSt w x s) (hr : RdEv w y e) (hf : e.Fits) (hw : Sw s) (hs : Sz s) (hl : e.order.length ≤ 33554432) (hby : beyondB s [(y, e)] = false) :
    Calls Tryz.prog 5 #[x.val s, y.val e] w (BoolPost true w) := by
  obtain ⟨iE, hiE, hzE0, hzE1, hzE2⟩ := info_parts infoEv
  have HIE := Lib.hid (And.intro hiE (And.intro hzE0 hzE1))
  clear hiE hzE0 hzE1 hzE2
  obtain ⟨fsS, hfsS⟩ := undSt
  have HFS := Lib.hid hfsS
  obtain ⟨fsE, hfsE⟩ := undEv
  have HFE := Lib.hid hfsE
  have HR := Lib.hid h
  have HE := Lib.hid hr
  have HF := Lib.hid hf
  have HL := Lib.hid hl
  have HSZ := Lib.hid hs
  have HBY := Lib.hid (fun A c W (hW : Below w.heap.size w W) he => beyond_any x s A 1 c [(y, e)] W (h.below hW) hw he (by omega) (fun i => by
    match i with
    | 0 => exact Nat.le_trans hl (by omega)
    | i + 1 => simp [zeroP, zeroEv]))
  rw [hby] at HBY
  have HCPw := Lib.hid (fun W (hW : Below w.heap.size w W) => copyState_any x s W (h.below hW) hs)
  have HCEw := Lib.hid (fun W (hW : Below w.heap.size w W) => copyEvent_any y e W (RdEv.below hr hW) hl)
  have HLM := Lib.hid (fun W (hW : Below w.heap.size w W) => lawMay_any x s W (h.below hW) hs)
  obtain ⟨cs, hcs⟩ : ∃ c, c = x.arr s := ⟨_, rfl⟩
  obtain ⟨ce, hce⟩ : ∃ c, c = y.arr e := ⟨_, rfl⟩
  have HS := Lib.hid (show cs.size = 7 by rw [hcs]; rfl)
  have HSE := Lib.hid (show ce.size = 12 by rw [hce]; rfl)
  have HCE0 := Lib.hid hce
  have he1 : x.val s = .agg cs := by rw [hcs]; rfl
  have he2 : y.val e = .agg ce := by rw [hce]; rfl
  have HCS := Lib.hid hcs
  rw [he1] at HBY HCPw HLM ⊢
  rw [he2] at HCEw ⊢
  have HV1 := Lib.hid he1
  have HRX := Lib.hid h
  clear h hr hf hl hs hw hcs hce he1 he2 hfsS hfsE hby
  have h1 : G.Blk ((w.alloc (.cells cs 27)).alloc (.cells ce 30)) w.heap.size 27 cs := heap_alloc2_old w _ _
  have h2 : G.Blk ((w.alloc (.cells cs 27)).alloc (.cells ce 30)) (w.heap.size + 1) 30 ce := heap_alloc2_new w _ _
  have hbl0 : Below w.heap.size w ((w.alloc (.cells cs 27)).alloc (.cells ce 30)) := G.bl_alloc (G.bl_alloc (Below.refl _ _) _) _
  go_enter Tryz.func5, Tryz.ntmps5
  go_upto_region 1 with (fail)
  obtain ⟨w0, hw0⟩ : ∃ w0, w0 = (w.alloc (.cells cs 27)).alloc (.cells ce 30) := ⟨_, rfl⟩
  rw [← hw0] at h1 h2 hbl0 ⊢
  clear hw0
  obtain ⟨g, hg⟩ : ∃ g, g = w.heap.size := ⟨_, rfl⟩
  rw [← hg] at h1 h2 ⊢
  have HG := Lib.hid hg
  have HBL0 := Lib.hid hbl0
  have HX0 := Lib.hid h1
  have HE0 := Lib.hid h2
  clear h1 h2 hbl0 hg
  have HEV := Lib.hid (show RdEvs (w0.alloc (.cells ce 30)) (some ⟨w0.heap.size, 0, none⟩) 1 [(y, e)] from ⟨by
    have h9 := rd_blk (sz := 12) (n := 1) (G.Blk.new w0 30 ce) (by rw [Array.length_toList, HSE.out])
    have e9 : flatE [(y, e)] = ce.toList := by rw [HCE0.out]; simp [flatE, cellsE]
    rw [e9]
    exact h9, fun i hi => by
      obtain rfl : i = 0 := by omega
      exact RdEv.below HE.out (G.bl_alloc HBL0.out _)⟩)
  go_upto_region 3 with (first | (refine wpList_load_row rfl 27 _ rfl g rfl _ cs (0, 0) _ HX0.out HFS.out rfl (by rw [HS.out]; exact sizeSt) ?_) | (refine wpList_load_row rfl 30 _ rfl (g + 1) rfl _ ce (0, 0) _ HE0.out HFE.out rfl (by rw [HSE.out]; exact sizeEv) ?_) | (refine wpList_buildOne rfl 32 30 (.tmp 14) rfl ce rfl iE (.agg zeroE) Tryz.underlying32 HIE.out.1 HIE.out.2.1 (by rw [HIE.out.2.2]; decide) (by rw [HIE.out.2.2]; decide) (fill_evs HCE0.out HIE.out.2.2) ?_) | ((with_reducible refine (HBY.out _ _ _ (G.bl_alloc HBL0.out _) HEV.out).mono ?_); rintro e1 w1 ⟨rfl, hb1⟩; have HBW1 := Lib.hid hb1; clear hb1))
  have hb1 := G.bl_trans (G.bl_alloc HBL0.out _) HBW1.out
  have HBL1 := Lib.hid hb1
  have hw1 := (G.bl_trans (G.bl_alloc (Below.refl w0.heap.size w0) (.cells ce 30)) HBW1.out)
  have HTW := Lib.hid (show TwH w1 g cs (g + 1) ce w1 from ⟨Below.refl _ _, HX0.out.below hw1 HX0.out.lt, HE0.out.below hw1 HE0.out.lt, HS.out, HSE.out, Nat.lt_of_lt_of_le HX0.out.lt hw1.size, Nat.lt_of_lt_of_le HE0.out.lt hw1.size⟩)
  have HCP := Lib.hid (fun W (hW : Below w1.heap.size w1 W) => HCPw.out W (G.bl_trans hb1 hW))
  have HCE := Lib.hid (fun W (hW : Below w1.heap.size w1 W) => HCEw.out W (G.bl_trans hb1 hW))
  clear hb1 hw1
  go_cut [5, 6] from 13 to 125 (fun s5 s6 wx => CallRel w1 s (stepE s e false) s5 s6 wx)
  case first =>
    refine wp_region_held_drew (S := TwH w1 g cs (g + 1) ce) (by kernel_rfl) ?_ (fun hHeld => ?_)
    · exact TwH.below HTW.out (Below.refl _ _).drew
    refine wpAnyH_take (i := 0) (oi := ⟨some 18, _, _, _, _, _⟩) (v := ?_) rfl (by kernel_rfl) (by kernel_rfl) (by kernel_rfl) (fun _ _ _ h => h) (Or.inl ⟨by rfl, ?_⟩) (by assumption) ?_
    rotate_left
    · (intro w hSw; refine exec_load_held 27 (.tmp 2) ?_ g ?_ _ (run_st hSw.bx hSw.sx) <;> rfl)
    try simp only [Act.put, List.setIfInBounds_toArray, List.set_cons_zero, List.set_cons_succ]
    refine wpAnyH_take (i := 2) (oi := ⟨some 20, _, _, _, _, _⟩) (v := ?_) rfl (by kernel_rfl) (by kernel_rfl) (by kernel_rfl) (fun _ _ _ h => h) (Or.inl ⟨by rfl, ?_⟩) (by assumption) ?_
    rotate_left
    · (intro w hSw; refine exec_load_held 30 (.tmp 3) ?_ (g + 1) ?_ _ (run_ev hSw.be hSw.se) <;> rfl)
    try simp only [Act.put, List.setIfInBounds_toArray, List.set_cons_zero, List.set_cons_succ]
    refine wpAnyH_ready (rs := [1, 8]) (by kernel_rfl) (by simp) ?_
    refine AllReadyH.cons rfl (fun K hK => ?_) ?_
    · go_simp
      (refine (HCP.out _ hHeld.bl).mono ?_; rintro e6 w6 hp6; obtain ⟨x6, rfl, ho6, hb6⟩ := hp6; have HB6 := Lib.hid hb6; have HO6 := Lib.hid ho6.rd; clear ho6 hb6)
      go_wp2_with fail
      refine hK.out _ _ ?_ (fun hHeld => ?_)
      · exact TwH.below (by assumption) HB6.out
      clear hK K
      try simp only [Act.put, List.setIfInBounds_toArray, List.set_cons_zero, List.set_cons_succ]
      refine wpAnyH_ready (rs := [3, 8]) (by kernel_rfl) (by simp) ?_
      refine AllReadyH.cons rfl (fun K hK => ?_) ?_
      · go_simp
        (refine (HCE.out _ hHeld.bl).mono ?_; rintro e7 w7 hp7; obtain ⟨y7, rfl, ho7, hb7⟩ := hp7; have HB7 := Lib.hid hb7; have HO7 := Lib.hid ho7.rd; clear ho7 hb7)
        go_wp2_with fail
        refine hK.out _ _ ?_ (fun hHeld => ?_)
        · exact TwH.below (by assumption) HB7.out
        clear hK K
        try simp only [Act.put, List.setIfInBounds_toArray, List.set_cons_zero, List.set_cons_succ]
        refine wpAnyH_ready (rs := [4, 8]) (by kernel_rfl) (by simp) ?_
        refine AllReadyH.cons rfl (fun K hK => ?_) ?_
        · go_simp
          (refine (apply_any x6 s y7 e _ (HO6.out.below (by first | exact Below.refl _ _ | exact G.bl_alloc (Below.refl _ _) _ | exact HB7.out | exact G.bl_alloc HB7.out _ | exact G.bl_trans (G.bl_alloc (Below.refl _ _) _) HB7.out)) HSZ.out (RdEv.below HO7.out (by first | exact Below.refl _ _ | exact G.bl_alloc (Below.refl _ _) _ | exact HB6.out | exact G.bl_alloc HB6.out _ | exact G.bl_trans (G.bl_alloc (Below.refl _ _) _) HB6.out)) HF.out HL.out).mono ?_; rintro e8 w8 hp8; obtain ⟨x8, t8, k8, rfl, ho8, hb8, hc8⟩ := hp8; have HB8 := Lib.hid hb8; have HO8 := Lib.hid ho8; have HC8 := Lib.hid hc8; clear ho8 hb8 hc8)
          go_wp2_with fail
          refine hK.out _ _ ?_ (fun hHeld => ?_)
          · exact TwH.below (by assumption) HB8.out
          clear hK K
          try simp only [Act.put, List.setIfInBounds_toArray, List.set_cons_zero, List.set_cons_succ]
          refine wpAnyH_take (i := 5) (oi := ⟨some 17, _, _, _, _, _⟩) (v := ?_) rfl (by kernel_rfl) (by kernel_rfl) (by kernel_rfl) (fun _ _ _ h => h) (Or.inl ⟨by rfl, ?_⟩) (by assumption) ?_
          rotate_left
          · (intro w hSw; (try dsimp only at hSw); go_split_ands; go_simp; try with_reducible rfl)
          try simp only [Act.put, List.setIfInBounds_toArray, List.set_cons_zero, List.set_cons_succ]
          refine wpAnyH_take (i := 6) (oi := ⟨some 23, _, _, _, _, _⟩) (v := ?_) rfl (by kernel_rfl) (by kernel_rfl) (by kernel_rfl) (fun _ _ _ h => h) (Or.inl ⟨by rfl, ?_⟩) (by assumption) ?_
          rotate_left
          · (intro w hSw; (try dsimp only at hSw); go_split_ands; go_simp; try with_reducible rfl)
          try simp only [Act.put, List.setIfInBounds_toArray, List.set_cons_zero, List.set_cons_succ]
          refine wpAnyH_take (i := 7) (oi := ⟨some 24, _, _, _, _, _⟩) (v := ?_) rfl (by kernel_rfl) (by kernel_rfl) (by kernel_rfl) (fun _ _ _ h => h) (Or.inl ⟨by rfl, ?_⟩) (by assumption) ?_
          rotate_left
          · (intro w hSw; (try dsimp only at hSw); go_split_ands; go_simp; try with_reducible rfl)
          try simp only [Act.put, List.setIfInBounds_toArray, List.set_cons_zero, List.set_cons_succ]
          refine wpAnyH_ready (rs := [8]) (by kernel_rfl) (by simp) ?_
          refine AllReadyH.cons rfl (fun K hK => ?_) AllReadyH.nil
          go_simp
          go_wp2_with fail
          refine hK.out _ _ ?_ (fun hHeld => ?_)
          · exact TwH.below (by assumption) (G.bl_alloc (Below.refl _ _) _)
          clear hK K
          try simp only [Act.put, List.setIfInBounds_toArray, List.set_cons_zero, List.set_cons_succ]
          refine wpAnyH_ready (rs := [9]) (by kernel_rfl) (by simp) ?_
          refine AllReadyH.cons rfl (fun K hK => ?_) AllReadyH.nil
          first | (refine wp_store_row 27 (.tmp 5) (.tmp 23) rfl _ (x8.arr t8) rfl rfl 27 #[.slice none 0 0, .slice none 0 0, .slice none 0 0, .int .i32 0, .int .i64 0, .int .i8 0, .int .i64 0] (heap_alloc_new _ _) (by kernel_rfl) rfl (arr_one _ _) ?_) | (refine wp_store_row 27 (.tmp 5) (.tmp 23) rfl _ (x8.arr t8) rfl rfl 27 #[.slice none 0 0, .slice none 0 0, .slice none 0 0, .int .i32 0, .int .i64 0, .int .i8 0, .int .i64 0] (blk_after HB8.out) (by kernel_rfl) rfl (arr_one _ _) ?_) | (refine wp_store_row 27 (.tmp 5) (.tmp 23) rfl _ (x8.arr t8) rfl rfl 27 #[.slice none 0 0, .slice none 0 0, .slice none 0 0, .int .i32 0, .int .i64 0, .int .i8 0, .int .i64 0] (blk_after2 HB6.out HB8.out) (by kernel_rfl) rfl (arr_one _ _) ?_) | (refine wp_store_row 27 (.tmp 5) (.tmp 23) rfl _ (x8.arr t8) rfl rfl 27 #[.slice none 0 0, .slice none 0 0, .slice none 0 0, .int .i32 0, .int .i64 0, .int .i8 0, .int .i64 0] (blk_after2 HB7.out HB8.out) (by kernel_rfl) rfl (arr_one _ _) ?_) | (refine wp_store_row 27 (.tmp 5) (.tmp 23) rfl _ (x8.arr t8) rfl rfl 27 #[.slice none 0 0, .slice none 0 0, .slice none 0 0, .int .i32 0, .int .i64 0, .int .i8 0, .int .i64 0] (blk_after2 HB6.out (G.bl_trans HB7.out HB8.out)) (by kernel_rfl) rfl (arr_one _ _) ?_) | (refine wp_store_row 27 (.tmp 5) (.tmp 23) rfl _ (x8.arr t8) rfl rfl 27 #[.slice none 0 0, .slice none 0 0, .slice none 0 0, .int .i32 0, .int .i64 0, .int .i8 0, .int .i64 0] (blk_after3 HB6.out (G.bl_trans HB7.out HB8.out)) (by kernel_rfl) rfl (arr_one _ _) ?_) | (refine wp_store_row 27 (.tmp 5) (.tmp 23) rfl _ (x8.arr t8) rfl rfl 27 #[.slice none 0 0, .slice none 0 0, .slice none 0 0, .int .i32 0, .int .i64 0, .int .i8 0, .int .i64 0] (blk_after3 HB7.out (G.bl_trans HB6.out HB8.out)) (by kernel_rfl) rfl (arr_one _ _) ?_)
          try simp only [Act.put, List.getElem_toArray, List.getElem_cons_succ, List.getElem_cons_zero]
          refine hK.out _ _ ?_ (fun hHeld => ?_)
          · exact TwH.row (by assumption) (by have s6 := HB6.out.size; have s7 := HB7.out.size; have s8 := HB8.out.size; first | omega | (simp at s6 s7 s8 ⊢; omega))
          clear hK K
          try simp only [Act.put, List.setIfInBounds_toArray, List.set_cons_zero, List.set_cons_succ]
          refine wpAnyH_take (i := 10) (oi := ⟨some 6, _, _, _, _, _⟩) (v := ?_) rfl (by kernel_rfl) (by kernel_rfl) (by kernel_rfl) (fun _ _ _ h => h) (Or.inl ⟨by rfl, ?_⟩) (by assumption) ?_
          rotate_left
          · (intro w hSw; (try dsimp only at hSw); go_split_ands; go_simp; try with_reducible rfl)
          try simp only [Act.put, List.setIfInBounds_toArray, List.set_cons_zero, List.set_cons_succ]
          refine wpAnyH_done (by kernel_rfl) ?_ _
          go_wp2_with fail
          go_meet
          case rel => first | exact callRel_mk (HO8.out.below (G.bl_alloc (Below.refl _ _) _)) hHeld.bl (G.Blk.new _ _ _) (by have s6 := HB6.out.size; have s7 := HB7.out.size; have s8 := HB8.out.size; first | omega | (simp at s6 s7 s8 ⊢; omega)) HC8.out | exact callRel_mk HO8.out hHeld.bl (blk_after HB8.out) (by have s6 := HB6.out.size; have s7 := HB7.out.size; have s8 := HB8.out.size; first | omega | (simp at s6 s7 s8 ⊢; omega)) HC8.out | exact callRel_mk HO8.out hHeld.bl (blk_after2 HB6.out HB8.out) (by have s6 := HB6.out.size; have s7 := HB7.out.size; have s8 := HB8.out.size; first | omega | (simp at s6 s7 s8 ⊢; omega)) HC8.out | exact callRel_mk HO8.out hHeld.bl (blk_after2 HB7.out HB8.out) (by have s6 := HB6.out.size; have s7 := HB7.out.size; have s8 := HB8.out.size; first | omega | (simp at s6 s7 s8 ⊢; omega)) HC8.out | exact callRel_mk HO8.out hHeld.bl (blk_after2 HB6.out (G.bl_trans HB7.out HB8.out)) (by have s6 := HB6.out.size; have s7 := HB7.out.size; have s8 := HB8.out.size; first | omega | (simp at s6 s7 s8 ⊢; omega)) HC8.out | exact callRel_mk HO8.out hHeld.bl (blk_after3 HB6.out (G.bl_trans HB7.out HB8.out)) (by have s6 := HB6.out.size; have s7 := HB7.out.size; have s8 := HB8.out.size; first | omega | (simp at s6 s7 s8 ⊢; omega)) HC8.out | exact callRel_mk HO8.out hHeld.bl (blk_after3 HB7.out (G.bl_trans HB6.out HB8.out)) (by have s6 := HB6.out.size; have s7 := HB7.out.size; have s8 := HB8.out.size; first | omega | (simp at s6 s7 s8 ⊢; omega)) HC8.out
        refine AllReadyH.cons rfl (fun K hK => ?_) ?_
        · go_simp
          go_wp2_with fail
          refine hK.out _ _ ?_ (fun hHeld => ?_)
          · exact TwH.below (by assumption) (G.bl_alloc (Below.refl _ _) _)
          clear hK K
          try simp only [Act.put, List.setIfInBounds_toArray, List.set_cons_zero, List.set_cons_succ]
          refine wpAnyH_ready (rs := [4]) (by kernel_rfl) (by simp) ?_
          refine AllReadyH.cons rfl (fun K hK => ?_) AllReadyH.nil
          go_simp
          (refine (apply_any x6 s y7 e _ (HO6.out.below (by first | exact Below.refl _ _ | exact G.bl_alloc (Below.refl _ _) _ | exact HB7.out | exact G.bl_alloc HB7.out _ | exact G.bl_trans (G.bl_alloc (Below.refl _ _) _) HB7.out)) HSZ.out (RdEv.below HO7.out (by first | exact Below.refl _ _ | exact G.bl_alloc (Below.refl _ _) _ | exact HB6.out | exact G.bl_alloc HB6.out _ | exact G.bl_trans (G.bl_alloc (Below.refl _ _) _) HB6.out)) HF.out HL.out).mono ?_; rintro e8 w8 hp8; obtain ⟨x8, t8, k8, rfl, ho8, hb8, hc8⟩ := hp8; have HB8 := Lib.hid hb8; have HO8 := Lib.hid ho8; have HC8 := Lib.hid hc8; clear ho8 hb8 hc8)
          go_wp2_with fail
          refine hK.out _ _ ?_ (fun hHeld => ?_)
          · exact TwH.below (by assumption) HB8.out
          clear hK K
          try simp only [Act.put, List.setIfInBounds_toArray, List.set_cons_zero, List.set_cons_succ]
          refine wpAnyH_take (i := 5) (oi := ⟨some 17, _, _, _, _, _⟩) (v := ?_) rfl (by kernel_rfl) (by kernel_rfl) (by kernel_rfl) (fun _ _ _ h => h) (Or.inl ⟨by rfl, ?_⟩) (by assumption) ?_
          rotate_left
          · (intro w hSw; (try dsimp only at hSw); go_split_ands; go_simp; try with_reducible rfl)
          try simp only [Act.put, List.setIfInBounds_toArray, List.set_cons_zero, List.set_cons_succ]
          refine wpAnyH_take (i := 6) (oi := ⟨some 23, _, _, _, _, _⟩) (v := ?_) rfl (by kernel_rfl) (by kernel_rfl) (by kernel_rfl) (fun _ _ _ h => h) (Or.inl ⟨by rfl, ?_⟩) (by assumption) ?_
          rotate_left
          · (intro w hSw; (try dsimp only at hSw); go_split_ands; go_simp; try with_reducible rfl)
          try simp only [Act.put, List.setIfInBounds_toArray, List.set_cons_zero, List.set_cons_succ]
          refine wpAnyH_take (i := 7) (oi := ⟨some 24, _, _, _, _, _⟩) (v := ?_) rfl (by kernel_rfl) (by kernel_rfl) (by kernel_rfl) (fun _ _ _ h => h) (Or.inl ⟨by rfl, ?_⟩) (by assumption) ?_
          rotate_left
          · (intro w hSw; (try dsimp only at hSw); go_split_ands; go_simp; try with_reducible rfl)
          try simp only [Act.put, List.setIfInBounds_toArray, List.set_cons_zero, List.set_cons_succ]
          refine wpAnyH_ready (rs := [9]) (by kernel_rfl) (by simp) ?_
          refine AllReadyH.cons rfl (fun K hK => ?_) AllReadyH.nil
          first | (refine wp_store_row 27 (.tmp 5) (.tmp 23) rfl _ (x8.arr t8) rfl rfl 27 #[.slice none 0 0, .slice none 0 0, .slice none 0 0, .int .i32 0, .int .i64 0, .int .i8 0, .int .i64 0] (heap_alloc_new _ _) (by kernel_rfl) rfl (arr_one _ _) ?_) | (refine wp_store_row 27 (.tmp 5) (.tmp 23) rfl _ (x8.arr t8) rfl rfl 27 #[.slice none 0 0, .slice none 0 0, .slice none 0 0, .int .i32 0, .int .i64 0, .int .i8 0, .int .i64 0] (blk_after HB8.out) (by kernel_rfl) rfl (arr_one _ _) ?_) | (refine wp_store_row 27 (.tmp 5) (.tmp 23) rfl _ (x8.arr t8) rfl rfl 27 #[.slice none 0 0, .slice none 0 0, .slice none 0 0, .int .i32 0, .int .i64 0, .int .i8 0, .int .i64 0] (blk_after2 HB6.out HB8.out) (by kernel_rfl) rfl (arr_one _ _) ?_) | (refine wp_store_row 27 (.tmp 5) (.tmp 23) rfl _ (x8.arr t8) rfl rfl 27 #[.slice none 0 0, .slice none 0 0, .slice none 0 0, .int .i32 0, .int .i64 0, .int .i8 0, .int .i64 0] (blk_after2 HB7.out HB8.out) (by kernel_rfl) rfl (arr_one _ _) ?_) | (refine wp_store_row 27 (.tmp 5) (.tmp 23) rfl _ (x8.arr t8) rfl rfl 27 #[.slice none 0 0, .slice none 0 0, .slice none 0 0, .int .i32 0, .int .i64 0, .int .i8 0, .int .i64 0] (blk_after2 HB6.out (G.bl_trans HB7.out HB8.out)) (by kernel_rfl) rfl (arr_one _ _) ?_) | (refine wp_store_row 27 (.tmp 5) (.tmp 23) rfl _ (x8.arr t8) rfl rfl 27 #[.slice none 0 0, .slice none 0 0, .slice none 0 0, .int .i32 0, .int .i64 0, .int .i8 0, .int .i64 0] (blk_after3 HB6.out (G.bl_trans HB7.out HB8.out)) (by kernel_rfl) rfl (arr_one _ _) ?_) | (refine wp_store_row 27 (.tmp 5) (.tmp 23) rfl _ (x8.arr t8) rfl rfl 27 #[.slice none 0 0, .slice none 0 0, .slice none 0 0, .int .i32 0, .int .i64 0, .int .i8 0, .int .i64 0] (blk_after3 HB7.out (G.bl_trans HB6.out HB8.out)) (by kernel_rfl) rfl (arr_one _ _) ?_)
          try simp only [Act.put, List.getElem_toArray, List.getElem_cons_succ, List.getElem_cons_zero]
          refine hK.out _ _ ?_ (fun hHeld => ?_)
          · exact TwH.row (by assumption) (by have s6 := HB6.out.size; have s7 := HB7.out.size; have s8 := HB8.out.size; first | omega | (simp at s6 s7 s8 ⊢; omega))
          clear hK K
          try simp only [Act.put, List.setIfInBounds_toArray, List.set_cons_zero, List.set_cons_succ]
          refine wpAnyH_take (i := 10) (oi := ⟨some 6, _, _, _, _, _⟩) (v := ?_) rfl (by kernel_rfl) (by kernel_rfl) (by kernel_rfl) (fun _ _ _ h => h) (Or.inl ⟨by rfl, ?_⟩) (by assumption) ?_
          rotate_left
          · (intro w hSw; (try dsimp only at hSw); go_split_ands; go_simp; try with_reducible rfl)
          try simp only [Act.put, List.setIfInBounds_toArray, List.set_cons_zero, List.set_cons_succ]
          refine wpAnyH_done (by kernel_rfl) ?_ _
          go_wp2_with fail
          go_meet
          case rel => first | exact callRel_mk (HO8.out.below (G.bl_alloc (Below.refl _ _) _)) hHeld.bl (G.Blk.new _ _ _) (by have s6 := HB6.out.size; have s7 := HB7.out.size; have s8 := HB8.out.size; first | omega | (simp at s6 s7 s8 ⊢; omega)) HC8.out | exact callRel_mk HO8.out hHeld.bl (blk_after HB8.out) (by have s6 := HB6.out.size; have s7 := HB7.out.size; have s8 := HB8.out.size; first | omega | (simp at s6 s7 s8 ⊢; omega)) HC8.out | exact callRel_mk HO8.out hHeld.bl (blk_after2 HB6.out HB8.out) (by have s6 := HB6.out.size; have s7 := HB7.out.size; have s8 := HB8.out.size; first | omega | (simp at s6 s7 s8 ⊢; omega)) HC8.out | exact callRel_mk HO8.out hHeld.bl (blk_after2 HB7.out HB8.out) (by have s6 := HB6.out.size; have s7 := HB7.out.size; have s8 := HB8.out.size; first | omega | (simp at s6 s7 s8 ⊢; omega)) HC8.out | exact callRel_mk HO8.out hHeld.bl (blk_after2 HB6.out (G.bl_trans HB7.out HB8.out)) (by have s6 := HB6.out.size; have s7 := HB7.out.size; have s8 := HB8.out.size; first | omega | (simp at s6 s7 s8 ⊢; omega)) HC8.out | exact callRel_mk HO8.out hHeld.bl (blk_after3 HB6.out (G.bl_trans HB7.out HB8.out)) (by have s6 := HB6.out.size; have s7 := HB7.out.size; have s8 := HB8.out.size; first | omega | (simp at s6 s7 s8 ⊢; omega)) HC8.out | exact callRel_mk HO8.out hHeld.bl (blk_after3 HB7.out (G.bl_trans HB6.out HB8.out)) (by have s6 := HB6.out.size; have s7 := HB7.out.size; have s8 := HB8.out.size; first | omega | (simp at s6 s7 s8 ⊢; omega)) HC8.out
        exact AllReadyH.nil
      refine AllReadyH.cons rfl (fun K hK => ?_) ?_
      · go_simp
        go_wp2_with fail
        refine hK.out _ _ ?_ (fun hHeld => ?_)
        · exact TwH.below (by assumption) (G.bl_alloc (Below.refl _ _) _)
        clear hK K
        try simp only [Act.put, List.setIfInBounds_toArray, List.set_cons_zero, List.set_cons_succ]
        refine wpAnyH_ready (rs := [3]) (by kernel_rfl) (by simp) ?_
        refine AllReadyH.cons rfl (fun K hK => ?_) AllReadyH.nil
        go_simp
        (refine (HCE.out _ hHeld.bl).mono ?_; rintro e7 w7 hp7; obtain ⟨y7, rfl, ho7, hb7⟩ := hp7; have HB7 := Lib.hid hb7; have HO7 := Lib.hid ho7.rd; clear ho7 hb7)
        go_wp2_with fail
        refine hK.out _ _ ?_ (fun hHeld => ?_)
        · exact TwH.below (by assumption) HB7.out
        clear hK K
        try simp only [Act.put, List.setIfInBounds_toArray, List.set_cons_zero, List.set_cons_succ]
        refine wpAnyH_ready (rs := [4]) (by kernel_rfl) (by simp) ?_
        refine AllReadyH.cons rfl (fun K hK => ?_) AllReadyH.nil
        go_simp
        (refine (apply_any x6 s y7 e _ (HO6.out.below (by first | exact Below.refl _ _ | exact G.bl_alloc (Below.refl _ _) _ | exact HB7.out | exact G.bl_alloc HB7.out _ | exact G.bl_trans (G.bl_alloc (Below.refl _ _) _) HB7.out)) HSZ.out (RdEv.below HO7.out (by first | exact Below.refl _ _ | exact G.bl_alloc (Below.refl _ _) _ | exact HB6.out | exact G.bl_alloc HB6.out _ | exact G.bl_trans (G.bl_alloc (Below.refl _ _) _) HB6.out)) HF.out HL.out).mono ?_; rintro e8 w8 hp8; obtain ⟨x8, t8, k8, rfl, ho8, hb8, hc8⟩ := hp8; have HB8 := Lib.hid hb8; have HO8 := Lib.hid ho8; have HC8 := Lib.hid hc8; clear ho8 hb8 hc8)
        go_wp2_with fail
        refine hK.out _ _ ?_ (fun hHeld => ?_)
        · exact TwH.below (by assumption) HB8.out
        clear hK K
        try simp only [Act.put, List.setIfInBounds_toArray, List.set_cons_zero, List.set_cons_succ]
        refine wpAnyH_take (i := 5) (oi := ⟨some 17, _, _, _, _, _⟩) (v := ?_) rfl (by kernel_rfl) (by kernel_rfl) (by kernel_rfl) (fun _ _ _ h => h) (Or.inl ⟨by rfl, ?_⟩) (by assumption) ?_
        rotate_left
        · (intro w hSw; (try dsimp only at hSw); go_split_ands; go_simp; try with_reducible rfl)
        try simp only [Act.put, List.setIfInBounds_toArray, List.set_cons_zero, List.set_cons_succ]
        refine wpAnyH_take (i := 6) (oi := ⟨some 23, _, _, _, _, _⟩) (v := ?_) rfl (by kernel_rfl) (by kernel_rfl) (by kernel_rfl) (fun _ _ _ h => h) (Or.inl ⟨by rfl, ?_⟩) (by assumption) ?_
        rotate_left
        · (intro w hSw; (try dsimp only at hSw); go_split_ands; go_simp; try with_reducible rfl)
        try simp only [Act.put, List.setIfInBounds_toArray, List.set_cons_zero, List.set_cons_succ]
        refine wpAnyH_take (i := 7) (oi := ⟨some 24, _, _, _, _, _⟩) (v := ?_) rfl (by kernel_rfl) (by kernel_rfl) (by kernel_rfl) (fun _ _ _ h => h) (Or.inl ⟨by rfl, ?_⟩) (by assumption) ?_
        rotate_left
        · (intro w hSw; (try dsimp only at hSw); go_split_ands; go_simp; try with_reducible rfl)
        try simp only [Act.put, List.setIfInBounds_toArray, List.set_cons_zero, List.set_cons_succ]
        refine wpAnyH_ready (rs := [9]) (by kernel_rfl) (by simp) ?_
        refine AllReadyH.cons rfl (fun K hK => ?_) AllReadyH.nil
        first | (refine wp_store_row 27 (.tmp 5) (.tmp 23) rfl _ (x8.arr t8) rfl rfl 27 #[.slice none 0 0, .slice none 0 0, .slice none 0 0, .int .i32 0, .int .i64 0, .int .i8 0, .int .i64 0] (heap_alloc_new _ _) (by kernel_rfl) rfl (arr_one _ _) ?_) | (refine wp_store_row 27 (.tmp 5) (.tmp 23) rfl _ (x8.arr t8) rfl rfl 27 #[.slice none 0 0, .slice none 0 0, .slice none 0 0, .int .i32 0, .int .i64 0, .int .i8 0, .int .i64 0] (blk_after HB8.out) (by kernel_rfl) rfl (arr_one _ _) ?_) | (refine wp_store_row 27 (.tmp 5) (.tmp 23) rfl _ (x8.arr t8) rfl rfl 27 #[.slice none 0 0, .slice none 0 0, .slice none 0 0, .int .i32 0, .int .i64 0, .int .i8 0, .int .i64 0] (blk_after2 HB6.out HB8.out) (by kernel_rfl) rfl (arr_one _ _) ?_) | (refine wp_store_row 27 (.tmp 5) (.tmp 23) rfl _ (x8.arr t8) rfl rfl 27 #[.slice none 0 0, .slice none 0 0, .slice none 0 0, .int .i32 0, .int .i64 0, .int .i8 0, .int .i64 0] (blk_after2 HB7.out HB8.out) (by kernel_rfl) rfl (arr_one _ _) ?_) | (refine wp_store_row 27 (.tmp 5) (.tmp 23) rfl _ (x8.arr t8) rfl rfl 27 #[.slice none 0 0, .slice none 0 0, .slice none 0 0, .int .i32 0, .int .i64 0, .int .i8 0, .int .i64 0] (blk_after2 HB6.out (G.bl_trans HB7.out HB8.out)) (by kernel_rfl) rfl (arr_one _ _) ?_) | (refine wp_store_row 27 (.tmp 5) (.tmp 23) rfl _ (x8.arr t8) rfl rfl 27 #[.slice none 0 0, .slice none 0 0, .slice none 0 0, .int .i32 0, .int .i64 0, .int .i8 0, .int .i64 0] (blk_after3 HB6.out (G.bl_trans HB7.out HB8.out)) (by kernel_rfl) rfl (arr_one _ _) ?_) | (refine wp_store_row 27 (.tmp 5) (.tmp 23) rfl _ (x8.arr t8) rfl rfl 27 #[.slice none 0 0, .slice none 0 0, .slice none 0 0, .int .i32 0, .int .i64 0, .int .i8 0, .int .i64 0] (blk_after3 HB7.out (G.bl_trans HB6.out HB8.out)) (by kernel_rfl) rfl (arr_one _ _) ?_)
        try simp only [Act.put, List.getElem_toArray, List.getElem_cons_succ, List.getElem_cons_zero]
        refine hK.out _ _ ?_ (fun hHeld => ?_)
        · exact TwH.row (by assumption) (by have s6 := HB6.out.size; have s7 := HB7.out.size; have s8 := HB8.out.size; first | omega | (simp at s6 s7 s8 ⊢; omega))
        clear hK K
        try simp only [Act.put, List.setIfInBounds_toArray, List.set_cons_zero, List.set_cons_succ]
        refine wpAnyH_take (i := 10) (oi := ⟨some 6, _, _, _, _, _⟩) (v := ?_) rfl (by kernel_rfl) (by kernel_rfl) (by kernel_rfl) (fun _ _ _ h => h) (Or.inl ⟨by rfl, ?_⟩) (by assumption) ?_
        rotate_left
        · (intro w hSw; (try dsimp only at hSw); go_split_ands; go_simp; try with_reducible rfl)
        try simp only [Act.put, List.setIfInBounds_toArray, List.set_cons_zero, List.set_cons_succ]
        refine wpAnyH_done (by kernel_rfl) ?_ _
        go_wp2_with fail
        go_meet
        case rel => first | exact callRel_mk (HO8.out.below (G.bl_alloc (Below.refl _ _) _)) hHeld.bl (G.Blk.new _ _ _) (by have s6 := HB6.out.size; have s7 := HB7.out.size; have s8 := HB8.out.size; first | omega | (simp at s6 s7 s8 ⊢; omega)) HC8.out | exact callRel_mk HO8.out hHeld.bl (blk_after HB8.out) (by have s6 := HB6.out.size; have s7 := HB7.out.size; have s8 := HB8.out.size; first | omega | (simp at s6 s7 s8 ⊢; omega)) HC8.out | exact callRel_mk HO8.out hHeld.bl (blk_after2 HB6.out HB8.out) (by have s6 := HB6.out.size; have s7 := HB7.out.size; have s8 := HB8.out.size; first | omega | (simp at s6 s7 s8 ⊢; omega)) HC8.out | exact callRel_mk HO8.out hHeld.bl (blk_after2 HB7.out HB8.out) (by have s6 := HB6.out.size; have s7 := HB7.out.size; have s8 := HB8.out.size; first | omega | (simp at s6 s7 s8 ⊢; omega)) HC8.out | exact callRel_mk HO8.out hHeld.bl (blk_after2 HB6.out (G.bl_trans HB7.out HB8.out)) (by have s6 := HB6.out.size; have s7 := HB7.out.size; have s8 := HB8.out.size; first | omega | (simp at s6 s7 s8 ⊢; omega)) HC8.out | exact callRel_mk HO8.out hHeld.bl (blk_after3 HB6.out (G.bl_trans HB7.out HB8.out)) (by have s6 := HB6.out.size; have s7 := HB7.out.size; have s8 := HB8.out.size; first | omega | (simp at s6 s7 s8 ⊢; omega)) HC8.out | exact callRel_mk HO8.out hHeld.bl (blk_after3 HB7.out (G.bl_trans HB6.out HB8.out)) (by have s6 := HB6.out.size; have s7 := HB7.out.size; have s8 := HB8.out.size; first | omega | (simp at s6 s7 s8 ⊢; omega)) HC8.out
      exact AllReadyH.nil
    refine AllReadyH.cons rfl (fun K hK => ?_) ?_
    · go_simp
      go_wp2_with fail
      refine hK.out _ _ ?_ (fun hHeld => ?_)
      · exact TwH.below (by assumption) (G.bl_alloc (Below.refl _ _) _)
      clear hK K
      try simp only [Act.put, List.setIfInBounds_toArray, List.set_cons_zero, List.set_cons_succ]
      refine wpAnyH_ready (rs := [1]) (by kernel_rfl) (by simp) ?_
      refine AllReadyH.cons rfl (fun K hK => ?_) AllReadyH.nil
      go_simp
      (refine (HCP.out _ hHeld.bl).mono ?_; rintro e6 w6 hp6; obtain ⟨x6, rfl, ho6, hb6⟩ := hp6; have HB6 := Lib.hid hb6; have HO6 := Lib.hid ho6.rd; clear ho6 hb6)
      go_wp2_with fail
      refine hK.out _ _ ?_ (fun hHeld => ?_)
      · exact TwH.below (by assumption) HB6.out
      clear hK K
      try simp only [Act.put, List.setIfInBounds_toArray, List.set_cons_zero, List.set_cons_succ]
      refine wpAnyH_ready (rs := [3]) (by kernel_rfl) (by simp) ?_
      refine AllReadyH.cons rfl (fun K hK => ?_) AllReadyH.nil
      go_simp
      (refine (HCE.out _ hHeld.bl).mono ?_; rintro e7 w7 hp7; obtain ⟨y7, rfl, ho7, hb7⟩ := hp7; have HB7 := Lib.hid hb7; have HO7 := Lib.hid ho7.rd; clear ho7 hb7)
      go_wp2_with fail
      refine hK.out _ _ ?_ (fun hHeld => ?_)
      · exact TwH.below (by assumption) HB7.out
      clear hK K
      try simp only [Act.put, List.setIfInBounds_toArray, List.set_cons_zero, List.set_cons_succ]
      refine wpAnyH_ready (rs := [4]) (by kernel_rfl) (by simp) ?_
      refine AllReadyH.cons rfl (fun K hK => ?_) AllReadyH.nil
      go_simp
      (refine (apply_any x6 s y7 e _ (HO6.out.below (by first | exact Below.refl _ _ | exact G.bl_alloc (Below.refl _ _) _ | exact HB7.out | exact G.bl_alloc HB7.out _ | exact G.bl_trans (G.bl_alloc (Below.refl _ _) _) HB7.out)) HSZ.out (RdEv.below HO7.out (by first | exact Below.refl _ _ | exact G.bl_alloc (Below.refl _ _) _ | exact HB6.out | exact G.bl_alloc HB6.out _ | exact G.bl_trans (G.bl_alloc (Below.refl _ _) _) HB6.out)) HF.out HL.out).mono ?_; rintro e8 w8 hp8; obtain ⟨x8, t8, k8, rfl, ho8, hb8, hc8⟩ := hp8; have HB8 := Lib.hid hb8; have HO8 := Lib.hid ho8; have HC8 := Lib.hid hc8; clear ho8 hb8 hc8)
      go_wp2_with fail
      refine hK.out _ _ ?_ (fun hHeld => ?_)
      · exact TwH.below (by assumption) HB8.out
      clear hK K
      try simp only [Act.put, List.setIfInBounds_toArray, List.set_cons_zero, List.set_cons_succ]
      refine wpAnyH_take (i := 5) (oi := ⟨some 17, _, _, _, _, _⟩) (v := ?_) rfl (by kernel_rfl) (by kernel_rfl) (by kernel_rfl) (fun _ _ _ h => h) (Or.inl ⟨by rfl, ?_⟩) (by assumption) ?_
      rotate_left
      · (intro w hSw; (try dsimp only at hSw); go_split_ands; go_simp; try with_reducible rfl)
      try simp only [Act.put, List.setIfInBounds_toArray, List.set_cons_zero, List.set_cons_succ]
      refine wpAnyH_take (i := 6) (oi := ⟨some 23, _, _, _, _, _⟩) (v := ?_) rfl (by kernel_rfl) (by kernel_rfl) (by kernel_rfl) (fun _ _ _ h => h) (Or.inl ⟨by rfl, ?_⟩) (by assumption) ?_
      rotate_left
      · (intro w hSw; (try dsimp only at hSw); go_split_ands; go_simp; try with_reducible rfl)
      try simp only [Act.put, List.setIfInBounds_toArray, List.set_cons_zero, List.set_cons_succ]
      refine wpAnyH_take (i := 7) (oi := ⟨some 24, _, _, _, _, _⟩) (v := ?_) rfl (by kernel_rfl) (by kernel_rfl) (by kernel_rfl) (fun _ _ _ h => h) (Or.inl ⟨by rfl, ?_⟩) (by assumption) ?_
      rotate_left
      · (intro w hSw; (try dsimp only at hSw); go_split_ands; go_simp; try with_reducible rfl)
      try simp only [Act.put, List.setIfInBounds_toArray, List.set_cons_zero, List.set_cons_succ]
      refine wpAnyH_ready (rs := [9]) (by kernel_rfl) (by simp) ?_
      refine AllReadyH.cons rfl (fun K hK => ?_) AllReadyH.nil
      first | (refine wp_store_row 27 (.tmp 5) (.tmp 23) rfl _ (x8.arr t8) rfl rfl 27 #[.slice none 0 0, .slice none 0 0, .slice none 0 0, .int .i32 0, .int .i64 0, .int .i8 0, .int .i64 0] (heap_alloc_new _ _) (by kernel_rfl) rfl (arr_one _ _) ?_) | (refine wp_store_row 27 (.tmp 5) (.tmp 23) rfl _ (x8.arr t8) rfl rfl 27 #[.slice none 0 0, .slice none 0 0, .slice none 0 0, .int .i32 0, .int .i64 0, .int .i8 0, .int .i64 0] (blk_after HB8.out) (by kernel_rfl) rfl (arr_one _ _) ?_) | (refine wp_store_row 27 (.tmp 5) (.tmp 23) rfl _ (x8.arr t8) rfl rfl 27 #[.slice none 0 0, .slice none 0 0, .slice none 0 0, .int .i32 0, .int .i64 0, .int .i8 0, .int .i64 0] (blk_after2 HB6.out HB8.out) (by kernel_rfl) rfl (arr_one _ _) ?_) | (refine wp_store_row 27 (.tmp 5) (.tmp 23) rfl _ (x8.arr t8) rfl rfl 27 #[.slice none 0 0, .slice none 0 0, .slice none 0 0, .int .i32 0, .int .i64 0, .int .i8 0, .int .i64 0] (blk_after2 HB7.out HB8.out) (by kernel_rfl) rfl (arr_one _ _) ?_) | (refine wp_store_row 27 (.tmp 5) (.tmp 23) rfl _ (x8.arr t8) rfl rfl 27 #[.slice none 0 0, .slice none 0 0, .slice none 0 0, .int .i32 0, .int .i64 0, .int .i8 0, .int .i64 0] (blk_after2 HB6.out (G.bl_trans HB7.out HB8.out)) (by kernel_rfl) rfl (arr_one _ _) ?_) | (refine wp_store_row 27 (.tmp 5) (.tmp 23) rfl _ (x8.arr t8) rfl rfl 27 #[.slice none 0 0, .slice none 0 0, .slice none 0 0, .int .i32 0, .int .i64 0, .int .i8 0, .int .i64 0] (blk_after3 HB6.out (G.bl_trans HB7.out HB8.out)) (by kernel_rfl) rfl (arr_one _ _) ?_) | (refine wp_store_row 27 (.tmp 5) (.tmp 23) rfl _ (x8.arr t8) rfl rfl 27 #[.slice none 0 0, .slice none 0 0, .slice none 0 0, .int .i32 0, .int .i64 0, .int .i8 0, .int .i64 0] (blk_after3 HB7.out (G.bl_trans HB6.out HB8.out)) (by kernel_rfl) rfl (arr_one _ _) ?_)
      try simp only [Act.put, List.getElem_toArray, List.getElem_cons_succ, List.getElem_cons_zero]
      refine hK.out _ _ ?_ (fun hHeld => ?_)
      · exact TwH.row (by assumption) (by have s6 := HB6.out.size; have s7 := HB7.out.size; have s8 := HB8.out.size; first | omega | (simp at s6 s7 s8 ⊢; omega))
      clear hK K
      try simp only [Act.put, List.setIfInBounds_toArray, List.set_cons_zero, List.set_cons_succ]
      refine wpAnyH_take (i := 10) (oi := ⟨some 6, _, _, _, _, _⟩) (v := ?_) rfl (by kernel_rfl) (by kernel_rfl) (by kernel_rfl) (fun _ _ _ h => h) (Or.inl ⟨by rfl, ?_⟩) (by assumption) ?_
      rotate_left
      · (intro w hSw; (try dsimp only at hSw); go_split_ands; go_simp; try with_reducible rfl)
      try simp only [Act.put, List.setIfInBounds_toArray, List.set_cons_zero, List.set_cons_succ]
      refine wpAnyH_done (by kernel_rfl) ?_ _
      go_wp2_with fail
      go_meet
      case rel => first | exact callRel_mk (HO8.out.below (G.bl_alloc (Below.refl _ _) _)) hHeld.bl (G.Blk.new _ _ _) (by have s6 := HB6.out.size; have s7 := HB7.out.size; have s8 := HB8.out.size; first | omega | (simp at s6 s7 s8 ⊢; omega)) HC8.out | exact callRel_mk HO8.out hHeld.bl (blk_after HB8.out) (by have s6 := HB6.out.size; have s7 := HB7.out.size; have s8 := HB8.out.size; first | omega | (simp at s6 s7 s8 ⊢; omega)) HC8.out | exact callRel_mk HO8.out hHeld.bl (blk_after2 HB6.out HB8.out) (by have s6 := HB6.out.size; have s7 := HB7.out.size; have s8 := HB8.out.size; first | omega | (simp at s6 s7 s8 ⊢; omega)) HC8.out | exact callRel_mk HO8.out hHeld.bl (blk_after2 HB7.out HB8.out) (by have s6 := HB6.out.size; have s7 := HB7.out.size; have s8 := HB8.out.size; first | omega | (simp at s6 s7 s8 ⊢; omega)) HC8.out | exact callRel_mk HO8.out hHeld.bl (blk_after2 HB6.out (G.bl_trans HB7.out HB8.out)) (by have s6 := HB6.out.size; have s7 := HB7.out.size; have s8 := HB8.out.size; first | omega | (simp at s6 s7 s8 ⊢; omega)) HC8.out | exact callRel_mk HO8.out hHeld.bl (blk_after3 HB6.out (G.bl_trans HB7.out HB8.out)) (by have s6 := HB6.out.size; have s7 := HB7.out.size; have s8 := HB8.out.size; first | omega | (simp at s6 s7 s8 ⊢; omega)) HC8.out | exact callRel_mk HO8.out hHeld.bl (blk_after3 HB7.out (G.bl_trans HB6.out HB8.out)) (by have s6 := HB6.out.size; have s7 := HB7.out.size; have s8 := HB8.out.size; first | omega | (simp at s6 s7 s8 ⊢; omega)) HC8.out
    exact AllReadyH.nil
  obtain ⟨g5, x5, t5, k5, rfl, rfl, hB5, hR5, hb5, hc5⟩ := hcut
  obtain ⟨w2, hw2⟩ : ∃ w2 : World, w2 = wc := ⟨_, rfl⟩
  subst hw2
  have HB5 := Lib.hid hB5
  have HR5 := Lib.hid hR5
  have HC5 := Lib.hid hc5
  have HBL2 := Lib.hid (G.bl_trans HBL1.out hb5)
  have HTW := Lib.hid (show TwH w2 g cs (g + 1) ce w2 from ⟨Below.refl _ _, HTW.out.bx.below hb5 HTW.out.lx, HTW.out.be.below hb5 HTW.out.le, HS.out, HSE.out, Nat.lt_of_lt_of_le HTW.out.lx hb5.size, Nat.lt_of_lt_of_le HTW.out.le hb5.size⟩)
  have HCP := Lib.hid (fun W (hW : Below w2.heap.size w2 W) => HCPw.out W (G.bl_trans HBL2.out hW))
  have HCE := Lib.hid (fun W (hW : Below w2.heap.size w2 W) => HCEw.out W (G.bl_trans HBL2.out hW))
  clear hB5 hR5 hb5 hc5
  go_upto_region 4 with (fail)
  go_cut [7, 8] from 13 to 125 (fun s7 s8 wx => CallRel w2 s (stepE s e true) s7 s8 wx)
  case first =>
    refine wp_region_held_drew (S := TwH w2 g cs (g + 1) ce) (by kernel_rfl) ?_ (fun hHeld => ?_)
    · exact TwH.below HTW.out (Below.refl _ _).drew
    refine wpAnyH_take (i := 0) (oi := ⟨some 26, _, _, _, _, _⟩) (v := ?_) rfl (by kernel_rfl) (by kernel_rfl) (by kernel_rfl) (fun _ _ _ h => h) (Or.inl ⟨by rfl, ?_⟩) (by assumption) ?_
    rotate_left
    · (intro w hSw; refine exec_load_held 27 (.tmp 2) ?_ g ?_ _ (run_st hSw.bx hSw.sx) <;> rfl)
    try simp only [Act.put, List.setIfInBounds_toArray, List.set_cons_zero, List.set_cons_succ]
    refine wpAnyH_take (i := 2) (oi := ⟨some 28, _, _, _, _, _⟩) (v := ?_) rfl (by kernel_rfl) (by kernel_rfl) (by kernel_rfl) (fun _ _ _ h => h) (Or.inl ⟨by rfl, ?_⟩) (by assumption) ?_
    rotate_left
    · (intro w hSw; refine exec_load_held 30 (.tmp 3) ?_ (g + 1) ?_ _ (run_ev hSw.be hSw.se) <;> rfl)
    try simp only [Act.put, List.setIfInBounds_toArray, List.set_cons_zero, List.set_cons_succ]
    refine wpAnyH_ready (rs := [1, 8]) (by kernel_rfl) (by simp) ?_
    refine AllReadyH.cons rfl (fun K hK => ?_) ?_
    · go_simp
      (refine (HCP.out _ hHeld.bl).mono ?_; rintro e6 w6 hp6; obtain ⟨x6, rfl, ho6, hb6⟩ := hp6; have HB6 := Lib.hid hb6; have HO6 := Lib.hid ho6.rd; clear ho6 hb6)
      go_wp2_with fail
      refine hK.out _ _ ?_ (fun hHeld => ?_)
      · exact TwH.below (by assumption) HB6.out
      clear hK K
      try simp only [Act.put, List.setIfInBounds_toArray, List.set_cons_zero, List.set_cons_succ]
      refine wpAnyH_ready (rs := [3, 8]) (by kernel_rfl) (by simp) ?_
      refine AllReadyH.cons rfl (fun K hK => ?_) ?_
      · go_simp
        (refine (HCE.out _ hHeld.bl).mono ?_; rintro e7 w7 hp7; obtain ⟨y7, rfl, ho7, hb7⟩ := hp7; have HB7 := Lib.hid hb7; have HO7 := Lib.hid ho7.rd; clear ho7 hb7)
        go_wp2_with fail
        refine hK.out _ _ ?_ (fun hHeld => ?_)
        · exact TwH.below (by assumption) HB7.out
        clear hK K
        try simp only [Act.put, List.setIfInBounds_toArray, List.set_cons_zero, List.set_cons_succ]
        refine wpAnyH_ready (rs := [4, 8]) (by kernel_rfl) (by simp) ?_
        refine AllReadyH.cons rfl (fun K hK => ?_) ?_
        · go_simp
          (refine (undo_any x6 s y7 e _ (HO6.out.below (by first | exact Below.refl _ _ | exact G.bl_alloc (Below.refl _ _) _ | exact HB7.out | exact G.bl_alloc HB7.out _ | exact G.bl_trans (G.bl_alloc (Below.refl _ _) _) HB7.out)) HSZ.out (RdEv.below HO7.out (by first | exact Below.refl _ _ | exact G.bl_alloc (Below.refl _ _) _ | exact HB6.out | exact G.bl_alloc HB6.out _ | exact G.bl_trans (G.bl_alloc (Below.refl _ _) _) HB6.out)) HF.out HL.out).mono ?_; rintro e8 w8 hp8; obtain ⟨x8, t8, k8, rfl, ho8, hb8, hc8⟩ := hp8; have HB8 := Lib.hid hb8; have HO8 := Lib.hid ho8; have HC8 := Lib.hid hc8; clear ho8 hb8 hc8)
          go_wp2_with fail
          refine hK.out _ _ ?_ (fun hHeld => ?_)
          · exact TwH.below (by assumption) HB8.out
          clear hK K
          try simp only [Act.put, List.setIfInBounds_toArray, List.set_cons_zero, List.set_cons_succ]
          refine wpAnyH_take (i := 5) (oi := ⟨some 25, _, _, _, _, _⟩) (v := ?_) rfl (by kernel_rfl) (by kernel_rfl) (by kernel_rfl) (fun _ _ _ h => h) (Or.inl ⟨by rfl, ?_⟩) (by assumption) ?_
          rotate_left
          · (intro w hSw; (try dsimp only at hSw); go_split_ands; go_simp; try with_reducible rfl)
          try simp only [Act.put, List.setIfInBounds_toArray, List.set_cons_zero, List.set_cons_succ]
          refine wpAnyH_take (i := 6) (oi := ⟨some 31, _, _, _, _, _⟩) (v := ?_) rfl (by kernel_rfl) (by kernel_rfl) (by kernel_rfl) (fun _ _ _ h => h) (Or.inl ⟨by rfl, ?_⟩) (by assumption) ?_
          rotate_left
          · (intro w hSw; (try dsimp only at hSw); go_split_ands; go_simp; try with_reducible rfl)
          try simp only [Act.put, List.setIfInBounds_toArray, List.set_cons_zero, List.set_cons_succ]
          refine wpAnyH_take (i := 7) (oi := ⟨some 32, _, _, _, _, _⟩) (v := ?_) rfl (by kernel_rfl) (by kernel_rfl) (by kernel_rfl) (fun _ _ _ h => h) (Or.inl ⟨by rfl, ?_⟩) (by assumption) ?_
          rotate_left
          · (intro w hSw; (try dsimp only at hSw); go_split_ands; go_simp; try with_reducible rfl)
          try simp only [Act.put, List.setIfInBounds_toArray, List.set_cons_zero, List.set_cons_succ]
          refine wpAnyH_ready (rs := [8]) (by kernel_rfl) (by simp) ?_
          refine AllReadyH.cons rfl (fun K hK => ?_) AllReadyH.nil
          go_simp
          go_wp2_with fail
          refine hK.out _ _ ?_ (fun hHeld => ?_)
          · exact TwH.below (by assumption) (G.bl_alloc (Below.refl _ _) _)
          clear hK K
          try simp only [Act.put, List.setIfInBounds_toArray, List.set_cons_zero, List.set_cons_succ]
          refine wpAnyH_ready (rs := [9]) (by kernel_rfl) (by simp) ?_
          refine AllReadyH.cons rfl (fun K hK => ?_) AllReadyH.nil
          first | (refine wp_store_row 27 (.tmp 7) (.tmp 31) rfl _ (x8.arr t8) rfl rfl 27 #[.slice none 0 0, .slice none 0 0, .slice none 0 0, .int .i32 0, .int .i64 0, .int .i8 0, .int .i64 0] (heap_alloc_new _ _) (by kernel_rfl) rfl (arr_one _ _) ?_) | (refine wp_store_row 27 (.tmp 7) (.tmp 31) rfl _ (x8.arr t8) rfl rfl 27 #[.slice none 0 0, .slice none 0 0, .slice none 0 0, .int .i32 0, .int .i64 0, .int .i8 0, .int .i64 0] (blk_after HB8.out) (by kernel_rfl) rfl (arr_one _ _) ?_) | (refine wp_store_row 27 (.tmp 7) (.tmp 31) rfl _ (x8.arr t8) rfl rfl 27 #[.slice none 0 0, .slice none 0 0, .slice none 0 0, .int .i32 0, .int .i64 0, .int .i8 0, .int .i64 0] (blk_after2 HB6.out HB8.out) (by kernel_rfl) rfl (arr_one _ _) ?_) | (refine wp_store_row 27 (.tmp 7) (.tmp 31) rfl _ (x8.arr t8) rfl rfl 27 #[.slice none 0 0, .slice none 0 0, .slice none 0 0, .int .i32 0, .int .i64 0, .int .i8 0, .int .i64 0] (blk_after2 HB7.out HB8.out) (by kernel_rfl) rfl (arr_one _ _) ?_) | (refine wp_store_row 27 (.tmp 7) (.tmp 31) rfl _ (x8.arr t8) rfl rfl 27 #[.slice none 0 0, .slice none 0 0, .slice none 0 0, .int .i32 0, .int .i64 0, .int .i8 0, .int .i64 0] (blk_after2 HB6.out (G.bl_trans HB7.out HB8.out)) (by kernel_rfl) rfl (arr_one _ _) ?_) | (refine wp_store_row 27 (.tmp 7) (.tmp 31) rfl _ (x8.arr t8) rfl rfl 27 #[.slice none 0 0, .slice none 0 0, .slice none 0 0, .int .i32 0, .int .i64 0, .int .i8 0, .int .i64 0] (blk_after3 HB6.out (G.bl_trans HB7.out HB8.out)) (by kernel_rfl) rfl (arr_one _ _) ?_) | (refine wp_store_row 27 (.tmp 7) (.tmp 31) rfl _ (x8.arr t8) rfl rfl 27 #[.slice none 0 0, .slice none 0 0, .slice none 0 0, .int .i32 0, .int .i64 0, .int .i8 0, .int .i64 0] (blk_after3 HB7.out (G.bl_trans HB6.out HB8.out)) (by kernel_rfl) rfl (arr_one _ _) ?_)
          try simp only [Act.put, List.getElem_toArray, List.getElem_cons_succ, List.getElem_cons_zero]
          refine hK.out _ _ ?_ (fun hHeld => ?_)
          · exact TwH.row (by assumption) (by have s6 := HB6.out.size; have s7 := HB7.out.size; have s8 := HB8.out.size; first | omega | (simp at s6 s7 s8 ⊢; omega))
          clear hK K
          try simp only [Act.put, List.setIfInBounds_toArray, List.set_cons_zero, List.set_cons_succ]
          refine wpAnyH_take (i := 10) (oi := ⟨some 8, _, _, _, _, _⟩) (v := ?_) rfl (by kernel_rfl) (by kernel_rfl) (by kernel_rfl) (fun _ _ _ h => h) (Or.inl ⟨by rfl, ?_⟩) (by assumption) ?_
          rotate_left
          · (intro w hSw; (try dsimp only at hSw); go_split_ands; go_simp; try with_reducible rfl)
          try simp only [Act.put, List.setIfInBounds_toArray, List.set_cons_zero, List.set_cons_succ]
          refine wpAnyH_done (by kernel_rfl) ?_ _
          go_wp2_with fail
          go_meet
          case rel => first | exact callRel_mk (HO8.out.below (G.bl_alloc (Below.refl _ _) _)) hHeld.bl (G.Blk.new _ _ _) (by have s6 := HB6.out.size; have s7 := HB7.out.size; have s8 := HB8.out.size; first | omega | (simp at s6 s7 s8 ⊢; omega)) HC8.out | exact callRel_mk HO8.out hHeld.bl (blk_after HB8.out) (by have s6 := HB6.out.size; have s7 := HB7.out.size; have s8 := HB8.out.size; first | omega | (simp at s6 s7 s8 ⊢; omega)) HC8.out | exact callRel_mk HO8.out hHeld.bl (blk_after2 HB6.out HB8.out) (by have s6 := HB6.out.size; have s7 := HB7.out.size; have s8 := HB8.out.size; first | omega | (simp at s6 s7 s8 ⊢; omega)) HC8.out | exact callRel_mk HO8.out hHeld.bl (blk_after2 HB7.out HB8.out) (by have s6 := HB6.out.size; have s7 := HB7.out.size; have s8 := HB8.out.size; first | omega | (simp at s6 s7 s8 ⊢; omega)) HC8.out | exact callRel_mk HO8.out hHeld.bl (blk_after2 HB6.out (G.bl_trans HB7.out HB8.out)) (by have s6 := HB6.out.size; have s7 := HB7.out.size; have s8 := HB8.out.size; first | omega | (simp at s6 s7 s8 ⊢; omega)) HC8.out | exact callRel_mk HO8.out hHeld.bl (blk_after3 HB6.out (G.bl_trans HB7.out HB8.out)) (by have s6 := HB6.out.size; have s7 := HB7.out.size; have s8 := HB8.out.size; first | omega | (simp at s6 s7 s8 ⊢; omega)) HC8.out | exact callRel_mk HO8.out hHeld.bl (blk_after3 HB7.out (G.bl_trans HB6.out HB8.out)) (by have s6 := HB6.out.size; have s7 := HB7.out.size; have s8 := HB8.out.size; first | omega | (simp at s6 s7 s8 ⊢; omega)) HC8.out
        refine AllReadyH.cons rfl (fun K hK => ?_) ?_
        · go_simp
          go_wp2_with fail
          refine hK.out _ _ ?_ (fun hHeld => ?_)
          · exact TwH.below (by assumption) (G.bl_alloc (Below.refl _ _) _)
          clear hK K
          try simp only [Act.put, List.setIfInBounds_toArray, List.set_cons_zero, List.set_cons_succ]
          refine wpAnyH_ready (rs := [4]) (by kernel_rfl) (by simp) ?_
          refine AllReadyH.cons rfl (fun K hK => ?_) AllReadyH.nil
          go_simp
          (refine (undo_any x6 s y7 e _ (HO6.out.below (by first | exact Below.refl _ _ | exact G.bl_alloc (Below.refl _ _) _ | exact HB7.out | exact G.bl_alloc HB7.out _ | exact G.bl_trans (G.bl_alloc (Below.refl _ _) _) HB7.out)) HSZ.out (RdEv.below HO7.out (by first | exact Below.refl _ _ | exact G.bl_alloc (Below.refl _ _) _ | exact HB6.out | exact G.bl_alloc HB6.out _ | exact G.bl_trans (G.bl_alloc (Below.refl _ _) _) HB6.out)) HF.out HL.out).mono ?_; rintro e8 w8 hp8; obtain ⟨x8, t8, k8, rfl, ho8, hb8, hc8⟩ := hp8; have HB8 := Lib.hid hb8; have HO8 := Lib.hid ho8; have HC8 := Lib.hid hc8; clear ho8 hb8 hc8)
          go_wp2_with fail
          refine hK.out _ _ ?_ (fun hHeld => ?_)
          · exact TwH.below (by assumption) HB8.out
          clear hK K
          try simp only [Act.put, List.setIfInBounds_toArray, List.set_cons_zero, List.set_cons_succ]
          refine wpAnyH_take (i := 5) (oi := ⟨some 25, _, _, _, _, _⟩) (v := ?_) rfl (by kernel_rfl) (by kernel_rfl) (by kernel_rfl) (fun _ _ _ h => h) (Or.inl ⟨by rfl, ?_⟩) (by assumption) ?_
          rotate_left
          · (intro w hSw; (try dsimp only at hSw); go_split_ands; go_simp; try with_reducible rfl)
          try simp only [Act.put, List.setIfInBounds_toArray, List.set_cons_zero, List.set_cons_succ]
          refine wpAnyH_take (i := 6) (oi := ⟨some 31, _, _, _, _, _⟩) (v := ?_) rfl (by kernel_rfl) (by kernel_rfl) (by kernel_rfl) (fun _ _ _ h => h) (Or.inl ⟨by rfl, ?_⟩) (by assumption) ?_
          rotate_left
          · (intro w hSw; (try dsimp only at hSw); go_split_ands; go_simp; try with_reducible rfl)
          try simp only [Act.put, List.setIfInBounds_toArray, List.set_cons_zero, List.set_cons_succ]
          refine wpAnyH_take (i := 7) (oi := ⟨some 32, _, _, _, _, _⟩) (v := ?_) rfl (by kernel_rfl) (by kernel_rfl) (by kernel_rfl) (fun _ _ _ h => h) (Or.inl ⟨by rfl, ?_⟩) (by assumption) ?_
          rotate_left
          · (intro w hSw; (try dsimp only at hSw); go_split_ands; go_simp; try with_reducible rfl)
          try simp only [Act.put, List.setIfInBounds_toArray, List.set_cons_zero, List.set_cons_succ]
          refine wpAnyH_ready (rs := [9]) (by kernel_rfl) (by simp) ?_
          refine AllReadyH.cons rfl (fun K hK => ?_) AllReadyH.nil
          first | (refine wp_store_row 27 (.tmp 7) (.tmp 31) rfl _ (x8.arr t8) rfl rfl 27 #[.slice none 0 0, .slice none 0 0, .slice none 0 0, .int .i32 0, .int .i64 0, .int .i8 0, .int .i64 0] (heap_alloc_new _ _) (by kernel_rfl) rfl (arr_one _ _) ?_) | (refine wp_store_row 27 (.tmp 7) (.tmp 31) rfl _ (x8.arr t8) rfl rfl 27 #[.slice none 0 0, .slice none 0 0, .slice none 0 0, .int .i32 0, .int .i64 0, .int .i8 0, .int .i64 0] (blk_after HB8.out) (by kernel_rfl) rfl (arr_one _ _) ?_) | (refine wp_store_row 27 (.tmp 7) (.tmp 31) rfl _ (x8.arr t8) rfl rfl 27 #[.slice none 0 0, .slice none 0 0, .slice none 0 0, .int .i32 0, .int .i64 0, .int .i8 0, .int .i64 0] (blk_after2 HB6.out HB8.out) (by kernel_rfl) rfl (arr_one _ _) ?_) | (refine wp_store_row 27 (.tmp 7) (.tmp 31) rfl _ (x8.arr t8) rfl rfl 27 #[.slice none 0 0, .slice none 0 0, .slice none 0 0, .int .i32 0, .int .i64 0, .int .i8 0, .int .i64 0] (blk_after2 HB7.out HB8.out) (by kernel_rfl) rfl (arr_one _ _) ?_) | (refine wp_store_row 27 (.tmp 7) (.tmp 31) rfl _ (x8.arr t8) rfl rfl 27 #[.slice none 0 0, .slice none 0 0, .slice none 0 0, .int .i32 0, .int .i64 0, .int .i8 0, .int .i64 0] (blk_after2 HB6.out (G.bl_trans HB7.out HB8.out)) (by kernel_rfl) rfl (arr_one _ _) ?_) | (refine wp_store_row 27 (.tmp 7) (.tmp 31) rfl _ (x8.arr t8) rfl rfl 27 #[.slice none 0 0, .slice none 0 0, .slice none 0 0, .int .i32 0, .int .i64 0, .int .i8 0, .int .i64 0] (blk_after3 HB6.out (G.bl_trans HB7.out HB8.out)) (by kernel_rfl) rfl (arr_one _ _) ?_) | (refine wp_store_row 27 (.tmp 7) (.tmp 31) rfl _ (x8.arr t8) rfl rfl 27 #[.slice none 0 0, .slice none 0 0, .slice none 0 0, .int .i32 0, .int .i64 0, .int .i8 0, .int .i64 0] (blk_after3 HB7.out (G.bl_trans HB6.out HB8.out)) (by kernel_rfl) rfl (arr_one _ _) ?_)
          try simp only [Act.put, List.getElem_toArray, List.getElem_cons_succ, List.getElem_cons_zero]
          refine hK.out _ _ ?_ (fun hHeld => ?_)
          · exact TwH.row (by assumption) (by have s6 := HB6.out.size; have s7 := HB7.out.size; have s8 := HB8.out.size; first | omega | (simp at s6 s7 s8 ⊢; omega))
          clear hK K
          try simp only [Act.put, List.setIfInBounds_toArray, List.set_cons_zero, List.set_cons_succ]
          refine wpAnyH_take (i := 10) (oi := ⟨some 8, _, _, _, _, _⟩) (v := ?_) rfl (by kernel_rfl) (by kernel_rfl) (by kernel_rfl) (fun _ _ _ h => h) (Or.inl ⟨by rfl, ?_⟩) (by assumption) ?_
          rotate_left
          · (intro w hSw; (try dsimp only at hSw); go_split_ands; go_simp; try with_reducible rfl)
          try simp only [Act.put, List.setIfInBounds_toArray, List.set_cons_zero, List.set_cons_succ]
          refine wpAnyH_done (by kernel_rfl) ?_ _
          go_wp2_with fail
          go_meet
          case rel => first | exact callRel_mk (HO8.out.below (G.bl_alloc (Below.refl _ _) _)) hHeld.bl (G.Blk.new _ _ _) (by have s6 := HB6.out.size; have s7 := HB7.out.size; have s8 := HB8.out.size; first | omega | (simp at s6 s7 s8 ⊢; omega)) HC8.out | exact callRel_mk HO8.out hHeld.bl (blk_after HB8.out) (by have s6 := HB6.out.size; have s7 := HB7.out.size; have s8 := HB8.out.size; first | omega | (simp at s6 s7 s8 ⊢; omega)) HC8.out | exact callRel_mk HO8.out hHeld.bl (blk_after2 HB6.out HB8.out) (by have s6 := HB6.out.size; have s7 := HB7.out.size; have s8 := HB8.out.size; first | omega | (simp at s6 s7 s8 ⊢; omega)) HC8.out | exact callRel_mk HO8.out hHeld.bl (blk_after2 HB7.out HB8.out) (by have s6 := HB6.out.size; have s7 := HB7.out.size; have s8 := HB8.out.size; first | omega | (simp at s6 s7 s8 ⊢; omega)) HC8.out | exact callRel_mk HO8.out hHeld.bl (blk_after2 HB6.out (G.bl_trans HB7.out HB8.out)) (by have s6 := HB6.out.size; have s7 := HB7.out.size; have s8 := HB8.out.size; first | omega | (simp at s6 s7 s8 ⊢; omega)) HC8.out | exact callRel_mk HO8.out hHeld.bl (blk_after3 HB6.out (G.bl_trans HB7.out HB8.out)) (by have s6 := HB6.out.size; have s7 := HB7.out.size; have s8 := HB8.out.size; first | omega | (simp at s6 s7 s8 ⊢; omega)) HC8.out | exact callRel_mk HO8.out hHeld.bl (blk_after3 HB7.out (G.bl_trans HB6.out HB8.out)) (by have s6 := HB6.out.size; have s7 := HB7.out.size; have s8 := HB8.out.size; first | omega | (simp at s6 s7 s8 ⊢; omega)) HC8.out
        exact AllReadyH.nil
      refine AllReadyH.cons rfl (fun K hK => ?_) ?_
      · go_simp
        go_wp2_with fail
        refine hK.out _ _ ?_ (fun hHeld => ?_)
        · exact TwH.below (by assumption) (G.bl_alloc (Below.refl _ _) _)
        clear hK K
        try simp only [Act.put, List.setIfInBounds_toArray, List.set_cons_zero, List.set_cons_succ]
        refine wpAnyH_ready (rs := [3]) (by kernel_rfl) (by simp) ?_
        refine AllReadyH.cons rfl (fun K hK => ?_) AllReadyH.nil
        go_simp
        (refine (HCE.out _ hHeld.bl).mono ?_; rintro e7 w7 hp7; obtain ⟨y7, rfl, ho7, hb7⟩ := hp7; have HB7 := Lib.hid hb7; have HO7 := Lib.hid ho7.rd; clear ho7 hb7)
        go_wp2_with fail
        refine hK.out _ _ ?_ (fun hHeld => ?_)
        · exact TwH.below (by assumption) HB7.out
        clear hK K
        try simp only [Act.put, List.setIfInBounds_toArray, List.set_cons_zero, List.set_cons_succ]
        refine wpAnyH_ready (rs := [4]) (by kernel_rfl) (by simp) ?_
        refine AllReadyH.cons rfl (fun K hK => ?_) AllReadyH.nil
        go_simp
        (refine (undo_any x6 s y7 e _ (HO6.out.below (by first | exact Below.refl _ _ | exact G.bl_alloc (Below.refl _ _) _ | exact HB7.out | exact G.bl_alloc HB7.out _ | exact G.bl_trans (G.bl_alloc (Below.refl _ _) _) HB7.out)) HSZ.out (RdEv.below HO7.out (by first | exact Below.refl _ _ | exact G.bl_alloc (Below.refl _ _) _ | exact HB6.out | exact G.bl_alloc HB6.out _ | exact G.bl_trans (G.bl_alloc (Below.refl _ _) _) HB6.out)) HF.out HL.out).mono ?_; rintro e8 w8 hp8; obtain ⟨x8, t8, k8, rfl, ho8, hb8, hc8⟩ := hp8; have HB8 := Lib.hid hb8; have HO8 := Lib.hid ho8; have HC8 := Lib.hid hc8; clear ho8 hb8 hc8)
        go_wp2_with fail
        refine hK.out _ _ ?_ (fun hHeld => ?_)
        · exact TwH.below (by assumption) HB8.out
        clear hK K
        try simp only [Act.put, List.setIfInBounds_toArray, List.set_cons_zero, List.set_cons_succ]
        refine wpAnyH_take (i := 5) (oi := ⟨some 25, _, _, _, _, _⟩) (v := ?_) rfl (by kernel_rfl) (by kernel_rfl) (by kernel_rfl) (fun _ _ _ h => h) (Or.inl ⟨by rfl, ?_⟩) (by assumption) ?_
        rotate_left
        · (intro w hSw; (try dsimp only at hSw); go_split_ands; go_simp; try with_reducible rfl)
        try simp only [Act.put, List.setIfInBounds_toArray, List.set_cons_zero, List.set_cons_succ]
        refine wpAnyH_take (i := 6) (oi := ⟨some 31, _, _, _, _, _⟩) (v := ?_) rfl (by kernel_rfl) (by kernel_rfl) (by kernel_rfl) (fun _ _ _ h => h) (Or.inl ⟨by rfl, ?_⟩) (by assumption) ?_
        rotate_left
        · (intro w hSw; (try dsimp only at hSw); go_split_ands; go_simp; try with_reducible rfl)
        try simp only [Act.put, List.setIfInBounds_toArray, List.set_cons_zero, List.set_cons_succ]
        refine wpAnyH_take (i := 7) (oi := ⟨some 32, _, _, _, _, _⟩) (v := ?_) rfl (by kernel_rfl) (by kernel_rfl) (by kernel_rfl) (fun _ _ _ h => h) (Or.inl ⟨by rfl, ?_⟩) (by assumption) ?_
        rotate_left
        · (intro w hSw; (try dsimp only at hSw); go_split_ands; go_simp; try with_reducible rfl)
        try simp only [Act.put, List.setIfInBounds_toArray, List.set_cons_zero, List.set_cons_succ]
        refine wpAnyH_ready (rs := [9]) (by kernel_rfl) (by simp) ?_
        refine AllReadyH.cons rfl (fun K hK => ?_) AllReadyH.nil
        first | (refine wp_store_row 27 (.tmp 7) (.tmp 31) rfl _ (x8.arr t8) rfl rfl 27 #[.slice none 0 0, .slice none 0 0, .slice none 0 0, .int .i32 0, .int .i64 0, .int .i8 0, .int .i64 0] (heap_alloc_new _ _) (by kernel_rfl) rfl (arr_one _ _) ?_) | (refine wp_store_row 27 (.tmp 7) (.tmp 31) rfl _ (x8.arr t8) rfl rfl 27 #[.slice none 0 0, .slice none 0 0, .slice none 0 0, .int .i32 0, .int .i64 0, .int .i8 0, .int .i64 0] (blk_after HB8.out) (by kernel_rfl) rfl (arr_one _ _) ?_) | (refine wp_store_row 27 (.tmp 7) (.tmp 31) rfl _ (x8.arr t8) rfl rfl 27 #[.slice none 0 0, .slice none 0 0, .slice none 0 0, .int .i32 0, .int .i64 0, .int .i8 0, .int .i64 0] (blk_after2 HB6.out HB8.out) (by kernel_rfl) rfl (arr_one _ _) ?_) | (refine wp_store_row 27 (.tmp 7) (.tmp 31) rfl _ (x8.arr t8) rfl rfl 27 #[.slice none 0 0, .slice none 0 0, .slice none 0 0, .int .i32 0, .int .i64 0, .int .i8 0, .int .i64 0] (blk_after2 HB7.out HB8.out) (by kernel_rfl) rfl (arr_one _ _) ?_) | (refine wp_store_row 27 (.tmp 7) (.tmp 31) rfl _ (x8.arr t8) rfl rfl 27 #[.slice none 0 0, .slice none 0 0, .slice none 0 0, .int .i32 0, .int .i64 0, .int .i8 0, .int .i64 0] (blk_after2 HB6.out (G.bl_trans HB7.out HB8.out)) (by kernel_rfl) rfl (arr_one _ _) ?_) | (refine wp_store_row 27 (.tmp 7) (.tmp 31) rfl _ (x8.arr t8) rfl rfl 27 #[.slice none 0 0, .slice none 0 0, .slice none 0 0, .int .i32 0, .int .i64 0, .int .i8 0, .int .i64 0] (blk_after3 HB6.out (G.bl_trans HB7.out HB8.out)) (by kernel_rfl) rfl (arr_one _ _) ?_) | (refine wp_store_row 27 (.tmp 7) (.tmp 31) rfl _ (x8.arr t8) rfl rfl 27 #[.slice none 0 0, .slice none 0 0, .slice none 0 0, .int .i32 0, .int .i64 0, .int .i8 0, .int .i64 0] (blk_after3 HB7.out (G.bl_trans HB6.out HB8.out)) (by kernel_rfl) rfl (arr_one _ _) ?_)
        try simp only [Act.put, List.getElem_toArray, List.getElem_cons_succ, List.getElem_cons_zero]
        refine hK.out _ _ ?_ (fun hHeld => ?_)
        · exact TwH.row (by assumption) (by have s6 := HB6.out.size; have s7 := HB7.out.size; have s8 := HB8.out.size; first | omega | (simp at s6 s7 s8 ⊢; omega))
        clear hK K
        try simp only [Act.put, List.setIfInBounds_toArray, List.set_cons_zero, List.set_cons_succ]
        refine wpAnyH_take (i := 10) (oi := ⟨some 8, _, _, _, _, _⟩) (v := ?_) rfl (by kernel_rfl) (by kernel_rfl) (by kernel_rfl) (fun _ _ _ h => h) (Or.inl ⟨by rfl, ?_⟩) (by assumption) ?_
        rotate_left
        · (intro w hSw; (try dsimp only at hSw); go_split_ands; go_simp; try with_reducible rfl)
        try simp only [Act.put, List.setIfInBounds_toArray, List.set_cons_zero, List.set_cons_succ]
        refine wpAnyH_done (by kernel_rfl) ?_ _
        go_wp2_with fail
        go_meet
        case rel => first | exact callRel_mk (HO8.out.below (G.bl_alloc (Below.refl _ _) _)) hHeld.bl (G.Blk.new _ _ _) (by have s6 := HB6.out.size; have s7 := HB7.out.size; have s8 := HB8.out.size; first | omega | (simp at s6 s7 s8 ⊢; omega)) HC8.out | exact callRel_mk HO8.out hHeld.bl (blk_after HB8.out) (by have s6 := HB6.out.size; have s7 := HB7.out.size; have s8 := HB8.out.size; first | omega | (simp at s6 s7 s8 ⊢; omega)) HC8.out | exact callRel_mk HO8.out hHeld.bl (blk_after2 HB6.out HB8.out) (by have s6 := HB6.out.size; have s7 := HB7.out.size; have s8 := HB8.out.size; first | omega | (simp at s6 s7 s8 ⊢; omega)) HC8.out | exact callRel_mk HO8.out hHeld.bl (blk_after2 HB7.out HB8.out) (by have s6 := HB6.out.size; have s7 := HB7.out.size; have s8 := HB8.out.size; first | omega | (simp at s6 s7 s8 ⊢; omega)) HC8.out | exact callRel_mk HO8.out hHeld.bl (blk_after2 HB6.out (G.bl_trans HB7.out HB8.out)) (by have s6 := HB6.out.size; have s7 := HB7.out.size; have s8 := HB8.out.size; first | omega | (simp at s6 s7 s8 ⊢; omega)) HC8.out | exact callRel_mk HO8.out hHeld.bl (blk_after3 HB6.out (G.bl_trans HB7.out HB8.out)) (by have s6 := HB6.out.size; have s7 := HB7.out.size; have s8 := HB8.out.size; first | omega | (simp at s6 s7 s8 ⊢; omega)) HC8.out | exact callRel_mk HO8.out hHeld.bl (blk_after3 HB7.out (G.bl_trans HB6.out HB8.out)) (by have s6 := HB6.out.size; have s7 := HB7.out.size; have s8 := HB8.out.size; first | omega | (simp at s6 s7 s8 ⊢; omega)) HC8.out
      exact AllReadyH.nil
    refine AllReadyH.cons rfl (fun K hK => ?_) ?_
    · go_simp
      go_wp2_with fail
      refine hK.out _ _ ?_ (fun hHeld => ?_)
      · exact TwH.below (by assumption) (G.bl_alloc (Below.refl _ _) _)
      clear hK K
      try simp only [Act.put, List.setIfInBounds_toArray, List.set_cons_zero, List.set_cons_succ]
      refine wpAnyH_ready (rs := [1]) (by kernel_rfl) (by simp) ?_
      refine AllReadyH.cons rfl (fun K hK => ?_) AllReadyH.nil
      go_simp
      (refine (HCP.out _ hHeld.bl).mono ?_; rintro e6 w6 hp6; obtain ⟨x6, rfl, ho6, hb6⟩ := hp6; have HB6 := Lib.hid hb6; have HO6 := Lib.hid ho6.rd; clear ho6 hb6)
      go_wp2_with fail
      refine hK.out _ _ ?_ (fun hHeld => ?_)
      · exact TwH.below (by assumption) HB6.out
      clear hK K
      try simp only [Act.put, List.setIfInBounds_toArray, List.set_cons_zero, List.set_cons_succ]
      refine wpAnyH_ready (rs := [3]) (by kernel_rfl) (by simp) ?_
      refine AllReadyH.cons rfl (fun K hK => ?_) AllReadyH.nil
      go_simp
      (refine (HCE.out _ hHeld.bl).mono ?_; rintro e7 w7 hp7; obtain ⟨y7, rfl, ho7, hb7⟩ := hp7; have HB7 := Lib.hid hb7; have HO7 := Lib.hid ho7.rd; clear ho7 hb7)
      go_wp2_with fail
      refine hK.out _ _ ?_ (fun hHeld => ?_)
      · exact TwH.below (by assumption) HB7.out
      clear hK K
      try simp only [Act.put, List.setIfInBounds_toArray, List.set_cons_zero, List.set_cons_succ]
      refine wpAnyH_ready (rs := [4]) (by kernel_rfl) (by simp) ?_
      refine AllReadyH.cons rfl (fun K hK => ?_) AllReadyH.nil
      go_simp
      (refine (undo_any x6 s y7 e _ (HO6.out.below (by first | exact Below.refl _ _ | exact G.bl_alloc (Below.refl _ _) _ | exact HB7.out | exact G.bl_alloc HB7.out _ | exact G.bl_trans (G.bl_alloc (Below.refl _ _) _) HB7.out)) HSZ.out (RdEv.below HO7.out (by first | exact Below.refl _ _ | exact G.bl_alloc (Below.refl _ _) _ | exact HB6.out | exact G.bl_alloc HB6.out _ | exact G.bl_trans (G.bl_alloc (Below.refl _ _) _) HB6.out)) HF.out HL.out).mono ?_; rintro e8 w8 hp8; obtain ⟨x8, t8, k8, rfl, ho8, hb8, hc8⟩ := hp8; have HB8 := Lib.hid hb8; have HO8 := Lib.hid ho8; have HC8 := Lib.hid hc8; clear ho8 hb8 hc8)
      go_wp2_with fail
      refine hK.out _ _ ?_ (fun hHeld => ?_)
      · exact TwH.below (by assumption) HB8.out
      clear hK K
      try simp only [Act.put, List.setIfInBounds_toArray, List.set_cons_zero, List.set_cons_succ]
      refine wpAnyH_take (i := 5) (oi := ⟨some 25, _, _, _, _, _⟩) (v := ?_) rfl (by kernel_rfl) (by kernel_rfl) (by kernel_rfl) (fun _ _ _ h => h) (Or.inl ⟨by rfl, ?_⟩) (by assumption) ?_
      rotate_left
      · (intro w hSw; (try dsimp only at hSw); go_split_ands; go_simp; try with_reducible rfl)
      try simp only [Act.put, List.setIfInBounds_toArray, List.set_cons_zero, List.set_cons_succ]
      refine wpAnyH_take (i := 6) (oi := ⟨some 31, _, _, _, _, _⟩) (v := ?_) rfl (by kernel_rfl) (by kernel_rfl) (by kernel_rfl) (fun _ _ _ h => h) (Or.inl ⟨by rfl, ?_⟩) (by assumption) ?_
      rotate_left
      · (intro w hSw; (try dsimp only at hSw); go_split_ands; go_simp; try with_reducible rfl)
      try simp only [Act.put, List.setIfInBounds_toArray, List.set_cons_zero, List.set_cons_succ]
      refine wpAnyH_take (i := 7) (oi := ⟨some 32, _, _, _, _, _⟩) (v := ?_) rfl (by kernel_rfl) (by kernel_rfl) (by kernel_rfl) (fun _ _ _ h => h) (Or.inl ⟨by rfl, ?_⟩) (by assumption) ?_
      rotate_left
      · (intro w hSw; (try dsimp only at hSw); go_split_ands; go_simp; try with_reducible rfl)
      try simp only [Act.put, List.setIfInBounds_toArray, List.set_cons_zero, List.set_cons_succ]
      refine wpAnyH_ready (rs := [9]) (by kernel_rfl) (by simp) ?_
      refine AllReadyH.cons rfl (fun K hK => ?_) AllReadyH.nil
      first | (refine wp_store_row 27 (.tmp 7) (.tmp 31) rfl _ (x8.arr t8) rfl rfl 27 #[.slice none 0 0, .slice none 0 0, .slice none 0 0, .int .i32 0, .int .i64 0, .int .i8 0, .int .i64 0] (heap_alloc_new _ _) (by kernel_rfl) rfl (arr_one _ _) ?_) | (refine wp_store_row 27 (.tmp 7) (.tmp 31) rfl _ (x8.arr t8) rfl rfl 27 #[.slice none 0 0, .slice none 0 0, .slice none 0 0, .int .i32 0, .int .i64 0, .int .i8 0, .int .i64 0] (blk_after HB8.out) (by kernel_rfl) rfl (arr_one _ _) ?_) | (refine wp_store_row 27 (.tmp 7) (.tmp 31) rfl _ (x8.arr t8) rfl rfl 27 #[.slice none 0 0, .slice none 0 0, .slice none 0 0, .int .i32 0, .int .i64 0, .int .i8 0, .int .i64 0] (blk_after2 HB6.out HB8.out) (by kernel_rfl) rfl (arr_one _ _) ?_) | (refine wp_store_row 27 (.tmp 7) (.tmp 31) rfl _ (x8.arr t8) rfl rfl 27 #[.slice none 0 0, .slice none 0 0, .slice none 0 0, .int .i32 0, .int .i64 0, .int .i8 0, .int .i64 0] (blk_after2 HB7.out HB8.out) (by kernel_rfl) rfl (arr_one _ _) ?_) | (refine wp_store_row 27 (.tmp 7) (.tmp 31) rfl _ (x8.arr t8) rfl rfl 27 #[.slice none 0 0, .slice none 0 0, .slice none 0 0, .int .i32 0, .int .i64 0, .int .i8 0, .int .i64 0] (blk_after2 HB6.out (G.bl_trans HB7.out HB8.out)) (by kernel_rfl) rfl (arr_one _ _) ?_) | (refine wp_store_row 27 (.tmp 7) (.tmp 31) rfl _ (x8.arr t8) rfl rfl 27 #[.slice none 0 0, .slice none 0 0, .slice none 0 0, .int .i32 0, .int .i64 0, .int .i8 0, .int .i64 0] (blk_after3 HB6.out (G.bl_trans HB7.out HB8.out)) (by kernel_rfl) rfl (arr_one _ _) ?_) | (refine wp_store_row 27 (.tmp 7) (.tmp 31) rfl _ (x8.arr t8) rfl rfl 27 #[.slice none 0 0, .slice none 0 0, .slice none 0 0, .int .i32 0, .int .i64 0, .int .i8 0, .int .i64 0] (blk_after3 HB7.out (G.bl_trans HB6.out HB8.out)) (by kernel_rfl) rfl (arr_one _ _) ?_)
      try simp only [Act.put, List.getElem_toArray, List.getElem_cons_succ, List.getElem_cons_zero]
      refine hK.out _ _ ?_ (fun hHeld => ?_)
      · exact TwH.row (by assumption) (by have s6 := HB6.out.size; have s7 := HB7.out.size; have s8 := HB8.out.size; first | omega | (simp at s6 s7 s8 ⊢; omega))
      clear hK K
      try simp only [Act.put, List.setIfInBounds_toArray, List.set_cons_zero, List.set_cons_succ]
      refine wpAnyH_take (i := 10) (oi := ⟨some 8, _, _, _, _, _⟩) (v := ?_) rfl (by kernel_rfl) (by kernel_rfl) (by kernel_rfl) (fun _ _ _ h => h) (Or.inl ⟨by rfl, ?_⟩) (by assumption) ?_
      rotate_left
      · (intro w hSw; (try dsimp only at hSw); go_split_ands; go_simp; try with_reducible rfl)
      try simp only [Act.put, List.setIfInBounds_toArray, List.set_cons_zero, List.set_cons_succ]
      refine wpAnyH_done (by kernel_rfl) ?_ _
      go_wp2_with fail
      go_meet
      case rel => first | exact callRel_mk (HO8.out.below (G.bl_alloc (Below.refl _ _) _)) hHeld.bl (G.Blk.new _ _ _) (by have s6 := HB6.out.size; have s7 := HB7.out.size; have s8 := HB8.out.size; first | omega | (simp at s6 s7 s8 ⊢; omega)) HC8.out | exact callRel_mk HO8.out hHeld.bl (blk_after HB8.out) (by have s6 := HB6.out.size; have s7 := HB7.out.size; have s8 := HB8.out.size; first | omega | (simp at s6 s7 s8 ⊢; omega)) HC8.out | exact callRel_mk HO8.out hHeld.bl (blk_after2 HB6.out HB8.out) (by have s6 := HB6.out.size; have s7 := HB7.out.size; have s8 := HB8.out.size; first | omega | (simp at s6 s7 s8 ⊢; omega)) HC8.out | exact callRel_mk HO8.out hHeld.bl (blk_after2 HB7.out HB8.out) (by have s6 := HB6.out.size; have s7 := HB7.out.size; have s8 := HB8.out.size; first | omega | (simp at s6 s7 s8 ⊢; omega)) HC8.out | exact callRel_mk HO8.out hHeld.bl (blk_after2 HB6.out (G.bl_trans HB7.out HB8.out)) (by have s6 := HB6.out.size; have s7 := HB7.out.size; have s8 := HB8.out.size; first | omega | (simp at s6 s7 s8 ⊢; omega)) HC8.out | exact callRel_mk HO8.out hHeld.bl (blk_after3 HB6.out (G.bl_trans HB7.out HB8.out)) (by have s6 := HB6.out.size; have s7 := HB7.out.size; have s8 := HB8.out.size; first | omega | (simp at s6 s7 s8 ⊢; omega)) HC8.out | exact callRel_mk HO8.out hHeld.bl (blk_after3 HB7.out (G.bl_trans HB6.out HB8.out)) (by have s6 := HB6.out.size; have s7 := HB7.out.size; have s8 := HB8.out.size; first | omega | (simp at s6 s7 s8 ⊢; omega)) HC8.out
    exact AllReadyH.nil
  obtain ⟨g7, x7, t7, k7, rfl, rfl, hB7, hR7, hb7, hc7⟩ := hcut
  obtain ⟨w3, hw3⟩ : ∃ w3 : World, w3 = wc := ⟨_, rfl⟩
  subst hw3
  have HB7 := Lib.hid hB7
  have HR7 := Lib.hid hR7
  have HC7 := Lib.hid hc7
  have HBL3 := Lib.hid (G.bl_trans HBL2.out hb7)
  have HB5 := Lib.hid (HB5.out.below hb7 HB5.out.lt)
  have HR5 := Lib.hid (HR5.out.below hb7)
  have HXC := Lib.hid (HTW.out.bx.below hb7 HTW.out.bx.lt)
  have HEC := Lib.hid (HTW.out.be.below hb7 HTW.out.be.lt)
  have HBC := Lib.hid (Below.refl w3.heap.size w3)
  have HLI := Lib.hid (fun W (hW : Below w3.heap.size w3 W) => lives_any W)
  have HMY := Lib.hid (fun W (hW : Below w3.heap.size w3 W) => HLM.out W (G.bl_trans HBL3.out hW))
  clear hB7 hR7 hb7 hc7
  by_cases hm : May s
  · have HM := Lib.hid hm
    rw [may_yes hm] at HMY
    clear hm
    go_wp2_with (first | (refine wpList_load_row_g (by rfl) 27 _ rfl g rfl _ cs (0, 0) _ HXC.out HFS.out rfl (by rw [HS.out]; exact sizeSt) ?_))
    refine (HMY.out _ HBC.out).mono ?_
    rintro e10 w10 ⟨rfl, hb10⟩
    have HN10 := Lib.hid hb10
    clear hb10
    have HBC := Lib.hid (G.bl_trans HBC.out HN10.out)
    have HXC := Lib.hid (HXC.out.below HN10.out HXC.out.lt)
    have HEC := Lib.hid (HEC.out.below HN10.out HEC.out.lt)
    have HB5 := Lib.hid (HB5.out.below HN10.out HB5.out.lt)
    have HB7 := Lib.hid (HB7.out.below HN10.out HB7.out.lt)
    have HB10 := Lib.hid HBC.out
    have HR5 := Lib.hid (HR5.out.below HBC.out)
    have HR7 := Lib.hid (HR7.out.below HBC.out)
    have HBL10 := Lib.hid (G.bl_trans HBL3.out HBC.out)
    have HXS := Lib.hid (HRX.out.below HBL10.out)
    clear HBC
    go_upto_if 46 with (fail)
    go_cut [] from 13 to 125 (fun wx => Below w10.heap.size w10 wx)
    case first =>
      rcases HC5.out with ⟨hk5, _, hs5⟩ | ⟨hk5, _, _, ht5⟩ | ⟨_, hno, _⟩
      · subst hk5
        obtain ⟨f1, f2, f3, f4⟩ := step_facts hs5 HM.out
        rw [undoE_eq e f2] at f1
        have HU5 := Lib.hid f1
        have HM5 := Lib.hid f2
        have HK5 := Lib.hid f3
        have HN5 := Lib.hid f4
        clear hs5 f1 f2 f3 f4
        have HTW := Lib.hid (show TwH w10 g5 (x5.arr t5) (g + 1) ce w10 from ⟨Below.refl _ _, HB5.out, HEC.out, rfl, HSE.out, HB5.out.lt, HEC.out.lt⟩)
        have HCP := Lib.hid (fun W (hW : Below w10.heap.size w10 W) => copyState_any x5 t5 W (HR5.out.below hW) (may_sz HM5.out))
        have HCE := Lib.hid (fun W (hW : Below w10.heap.size w10 W) => HCEw.out W (G.bl_trans HBL10.out hW))
        go_upto_region 8 with (fail)
        go_cut [9, 10] from 13 to 125 (fun s9 s10 wx => CallRel w10 t5 (stepE t5 e true) s9 s10 wx)
        case first =>
          refine wp_region_held_drew (S := TwH w10 g5 (x5.arr t5) (g + 1) ce) (by kernel_rfl) ?_ (fun hHeld => ?_)
          · exact TwH.below HTW.out (Below.refl _ _).drew
          refine wpAnyH_take (i := 0) (oi := ⟨some 48, _, _, _, _, _⟩) (v := ?_) rfl (by kernel_rfl) (by kernel_rfl) (by kernel_rfl) (fun _ _ _ h => h) (Or.inl ⟨by rfl, ?_⟩) (by assumption) ?_
          rotate_left
          · (intro w hSw; refine exec_load_held 27 (.tmp 5) ?_ g5 ?_ _ (run_st hSw.bx hSw.sx) <;> rfl)
          try simp only [Act.put, List.setIfInBounds_toArray, List.set_cons_zero, List.set_cons_succ]
          refine wpAnyH_take (i := 2) (oi := ⟨some 50, _, _, _, _, _⟩) (v := ?_) rfl (by kernel_rfl) (by kernel_rfl) (by kernel_rfl) (fun _ _ _ h => h) (Or.inl ⟨by rfl, ?_⟩) (by assumption) ?_
          rotate_left
          · (intro w hSw; refine exec_load_held 30 (.tmp 3) ?_ (g + 1) ?_ _ (run_ev hSw.be hSw.se) <;> rfl)
          try simp only [Act.put, List.setIfInBounds_toArray, List.set_cons_zero, List.set_cons_succ]
          refine wpAnyH_ready (rs := [1, 8]) (by kernel_rfl) (by simp) ?_
          refine AllReadyH.cons rfl (fun K hK => ?_) ?_
          · go_simp
            (refine (HCP.out _ hHeld.bl).mono ?_; rintro e6 w6 hp6; obtain ⟨x6, rfl, ho6, hb6⟩ := hp6; have HB6 := Lib.hid hb6; have HO6 := Lib.hid ho6.rd; clear ho6 hb6)
            go_wp2_with fail
            refine hK.out _ _ ?_ (fun hHeld => ?_)
            · exact TwH.below (by assumption) HB6.out
            clear hK K
            try simp only [Act.put, List.setIfInBounds_toArray, List.set_cons_zero, List.set_cons_succ]
            refine wpAnyH_ready (rs := [3, 8]) (by kernel_rfl) (by simp) ?_
            refine AllReadyH.cons rfl (fun K hK => ?_) ?_
            · go_simp
              (refine (HCE.out _ hHeld.bl).mono ?_; rintro e7 w7 hp7; obtain ⟨y7, rfl, ho7, hb7⟩ := hp7; have HB7 := Lib.hid hb7; have HO7 := Lib.hid ho7.rd; clear ho7 hb7)
              go_wp2_with fail
              refine hK.out _ _ ?_ (fun hHeld => ?_)
              · exact TwH.below (by assumption) HB7.out
              clear hK K
              try simp only [Act.put, List.setIfInBounds_toArray, List.set_cons_zero, List.set_cons_succ]
              refine wpAnyH_ready (rs := [4, 8]) (by kernel_rfl) (by simp) ?_
              refine AllReadyH.cons rfl (fun K hK => ?_) ?_
              · go_simp
                (refine (undo_any x6 t5 y7 e _ (HO6.out.below (by first | exact Below.refl _ _ | exact G.bl_alloc (Below.refl _ _) _ | exact HB7.out | exact G.bl_alloc HB7.out _ | exact G.bl_trans (G.bl_alloc (Below.refl _ _) _) HB7.out)) (may_sz HM5.out) (RdEv.below HO7.out (by first | exact Below.refl _ _ | exact G.bl_alloc (Below.refl _ _) _ | exact HB6.out | exact G.bl_alloc HB6.out _ | exact G.bl_trans (G.bl_alloc (Below.refl _ _) _) HB6.out)) HF.out HL.out).mono ?_; rintro e8 w8 hp8; obtain ⟨x8, t8, k8, rfl, ho8, hb8, hc8⟩ := hp8; have HB8 := Lib.hid hb8; have HO8 := Lib.hid ho8; have HC8 := Lib.hid hc8; clear ho8 hb8 hc8)
                go_wp2_with fail
                refine hK.out _ _ ?_ (fun hHeld => ?_)
                · exact TwH.below (by assumption) HB8.out
                clear hK K
                try simp only [Act.put, List.setIfInBounds_toArray, List.set_cons_zero, List.set_cons_succ]
                refine wpAnyH_take (i := 5) (oi := ⟨some 47, _, _, _, _, _⟩) (v := ?_) rfl (by kernel_rfl) (by kernel_rfl) (by kernel_rfl) (fun _ _ _ h => h) (Or.inl ⟨by rfl, ?_⟩) (by assumption) ?_
                rotate_left
                · (intro w hSw; (try dsimp only at hSw); go_split_ands; go_simp; try with_reducible rfl)
                try simp only [Act.put, List.setIfInBounds_toArray, List.set_cons_zero, List.set_cons_succ]
                refine wpAnyH_take (i := 6) (oi := ⟨some 53, _, _, _, _, _⟩) (v := ?_) rfl (by kernel_rfl) (by kernel_rfl) (by kernel_rfl) (fun _ _ _ h => h) (Or.inl ⟨by rfl, ?_⟩) (by assumption) ?_
                rotate_left
                · (intro w hSw; (try dsimp only at hSw); go_split_ands; go_simp; try with_reducible rfl)
                try simp only [Act.put, List.setIfInBounds_toArray, List.set_cons_zero, List.set_cons_succ]
                refine wpAnyH_take (i := 7) (oi := ⟨some 54, _, _, _, _, _⟩) (v := ?_) rfl (by kernel_rfl) (by kernel_rfl) (by kernel_rfl) (fun _ _ _ h => h) (Or.inl ⟨by rfl, ?_⟩) (by assumption) ?_
                rotate_left
                · (intro w hSw; (try dsimp only at hSw); go_split_ands; go_simp; try with_reducible rfl)
                try simp only [Act.put, List.setIfInBounds_toArray, List.set_cons_zero, List.set_cons_succ]
                refine wpAnyH_ready (rs := [8]) (by kernel_rfl) (by simp) ?_
                refine AllReadyH.cons rfl (fun K hK => ?_) AllReadyH.nil
                go_simp
                go_wp2_with fail
                refine hK.out _ _ ?_ (fun hHeld => ?_)
                · exact TwH.below (by assumption) (G.bl_alloc (Below.refl _ _) _)
                clear hK K
                try simp only [Act.put, List.setIfInBounds_toArray, List.set_cons_zero, List.set_cons_succ]
                refine wpAnyH_ready (rs := [9]) (by kernel_rfl) (by simp) ?_
                refine AllReadyH.cons rfl (fun K hK => ?_) AllReadyH.nil
                first | (refine wp_store_row 27 (.tmp 9) (.tmp 53) rfl _ (x8.arr t8) rfl rfl 27 #[.slice none 0 0, .slice none 0 0, .slice none 0 0, .int .i32 0, .int .i64 0, .int .i8 0, .int .i64 0] (heap_alloc_new _ _) (by kernel_rfl) rfl (arr_one _ _) ?_) | (refine wp_store_row 27 (.tmp 9) (.tmp 53) rfl _ (x8.arr t8) rfl rfl 27 #[.slice none 0 0, .slice none 0 0, .slice none 0 0, .int .i32 0, .int .i64 0, .int .i8 0, .int .i64 0] (blk_after HB8.out) (by kernel_rfl) rfl (arr_one _ _) ?_) | (refine wp_store_row 27 (.tmp 9) (.tmp 53) rfl _ (x8.arr t8) rfl rfl 27 #[.slice none 0 0, .slice none 0 0, .slice none 0 0, .int .i32 0, .int .i64 0, .int .i8 0, .int .i64 0] (blk_after2 HB6.out HB8.out) (by kernel_rfl) rfl (arr_one _ _) ?_) | (refine wp_store_row 27 (.tmp 9) (.tmp 53) rfl _ (x8.arr t8) rfl rfl 27 #[.slice none 0 0, .slice none 0 0, .slice none 0 0, .int .i32 0, .int .i64 0, .int .i8 0, .int .i64 0] (blk_after2 HB7.out HB8.out) (by kernel_rfl) rfl (arr_one _ _) ?_) | (refine wp_store_row 27 (.tmp 9) (.tmp 53) rfl _ (x8.arr t8) rfl rfl 27 #[.slice none 0 0, .slice none 0 0, .slice none 0 0, .int .i32 0, .int .i64 0, .int .i8 0, .int .i64 0] (blk_after2 HB6.out (G.bl_trans HB7.out HB8.out)) (by kernel_rfl) rfl (arr_one _ _) ?_) | (refine wp_store_row 27 (.tmp 9) (.tmp 53) rfl _ (x8.arr t8) rfl rfl 27 #[.slice none 0 0, .slice none 0 0, .slice none 0 0, .int .i32 0, .int .i64 0, .int .i8 0, .int .i64 0] (blk_after3 HB6.out (G.bl_trans HB7.out HB8.out)) (by kernel_rfl) rfl (arr_one _ _) ?_) | (refine wp_store_row 27 (.tmp 9) (.tmp 53) rfl _ (x8.arr t8) rfl rfl 27 #[.slice none 0 0, .slice none 0 0, .slice none 0 0, .int .i32 0, .int .i64 0, .int .i8 0, .int .i64 0] (blk_after3 HB7.out (G.bl_trans HB6.out HB8.out)) (by kernel_rfl) rfl (arr_one _ _) ?_)
                try simp only [Act.put, List.getElem_toArray, List.getElem_cons_succ, List.getElem_cons_zero]
                refine hK.out _ _ ?_ (fun hHeld => ?_)
                · exact TwH.row (by assumption) (by have s6 := HB6.out.size; have s7 := HB7.out.size; have s8 := HB8.out.size; first | omega | (simp at s6 s7 s8 ⊢; omega))
                clear hK K
                try simp only [Act.put, List.setIfInBounds_toArray, List.set_cons_zero, List.set_cons_succ]
                refine wpAnyH_take (i := 10) (oi := ⟨some 10, _, _, _, _, _⟩) (v := ?_) rfl (by kernel_rfl) (by kernel_rfl) (by kernel_rfl) (fun _ _ _ h => h) (Or.inl ⟨by rfl, ?_⟩) (by assumption) ?_
                rotate_left
                · (intro w hSw; (try dsimp only at hSw); go_split_ands; go_simp; try with_reducible rfl)
                try simp only [Act.put, List.setIfInBounds_toArray, List.set_cons_zero, List.set_cons_succ]
                refine wpAnyH_done (by kernel_rfl) ?_ _
                go_wp2_with fail
                go_meet
                case rel => first | exact callRel_mk (HO8.out.below (G.bl_alloc (Below.refl _ _) _)) hHeld.bl (G.Blk.new _ _ _) (by have s6 := HB6.out.size; have s7 := HB7.out.size; have s8 := HB8.out.size; first | omega | (simp at s6 s7 s8 ⊢; omega)) HC8.out | exact callRel_mk HO8.out hHeld.bl (blk_after HB8.out) (by have s6 := HB6.out.size; have s7 := HB7.out.size; have s8 := HB8.out.size; first | omega | (simp at s6 s7 s8 ⊢; omega)) HC8.out | exact callRel_mk HO8.out hHeld.bl (blk_after2 HB6.out HB8.out) (by have s6 := HB6.out.size; have s7 := HB7.out.size; have s8 := HB8.out.size; first | omega | (simp at s6 s7 s8 ⊢; omega)) HC8.out | exact callRel_mk HO8.out hHeld.bl (blk_after2 HB7.out HB8.out) (by have s6 := HB6.out.size; have s7 := HB7.out.size; have s8 := HB8.out.size; first | omega | (simp at s6 s7 s8 ⊢; omega)) HC8.out | exact callRel_mk HO8.out hHeld.bl (blk_after2 HB6.out (G.bl_trans HB7.out HB8.out)) (by have s6 := HB6.out.size; have s7 := HB7.out.size; have s8 := HB8.out.size; first | omega | (simp at s6 s7 s8 ⊢; omega)) HC8.out | exact callRel_mk HO8.out hHeld.bl (blk_after3 HB6.out (G.bl_trans HB7.out HB8.out)) (by have s6 := HB6.out.size; have s7 := HB7.out.size; have s8 := HB8.out.size; first | omega | (simp at s6 s7 s8 ⊢; omega)) HC8.out | exact callRel_mk HO8.out hHeld.bl (blk_after3 HB7.out (G.bl_trans HB6.out HB8.out)) (by have s6 := HB6.out.size; have s7 := HB7.out.size; have s8 := HB8.out.size; first | omega | (simp at s6 s7 s8 ⊢; omega)) HC8.out
              refine AllReadyH.cons rfl (fun K hK => ?_) ?_
              · go_simp
                go_wp2_with fail
                refine hK.out _ _ ?_ (fun hHeld => ?_)
                · exact TwH.below (by assumption) (G.bl_alloc (Below.refl _ _) _)
                clear hK K
                try simp only [Act.put, List.setIfInBounds_toArray, List.set_cons_zero, List.set_cons_succ]
                refine wpAnyH_ready (rs := [4]) (by kernel_rfl) (by simp) ?_
                refine AllReadyH.cons rfl (fun K hK => ?_) AllReadyH.nil
                go_simp
                (refine (undo_any x6 t5 y7 e _ (HO6.out.below (by first | exact Below.refl _ _ | exact G.bl_alloc (Below.refl _ _) _ | exact HB7.out | exact G.bl_alloc HB7.out _ | exact G.bl_trans (G.bl_alloc (Below.refl _ _) _) HB7.out)) (may_sz HM5.out) (RdEv.below HO7.out (by first | exact Below.refl _ _ | exact G.bl_alloc (Below.refl _ _) _ | exact HB6.out | exact G.bl_alloc HB6.out _ | exact G.bl_trans (G.bl_alloc (Below.refl _ _) _) HB6.out)) HF.out HL.out).mono ?_; rintro e8 w8 hp8; obtain ⟨x8, t8, k8, rfl, ho8, hb8, hc8⟩ := hp8; have HB8 := Lib.hid hb8; have HO8 := Lib.hid ho8; have HC8 := Lib.hid hc8; clear ho8 hb8 hc8)
                go_wp2_with fail
                refine hK.out _ _ ?_ (fun hHeld => ?_)
                · exact TwH.below (by assumption) HB8.out
                clear hK K
                try simp only [Act.put, List.setIfInBounds_toArray, List.set_cons_zero, List.set_cons_succ]
                refine wpAnyH_take (i := 5) (oi := ⟨some 47, _, _, _, _, _⟩) (v := ?_) rfl (by kernel_rfl) (by kernel_rfl) (by kernel_rfl) (fun _ _ _ h => h) (Or.inl ⟨by rfl, ?_⟩) (by assumption) ?_
                rotate_left
                · (intro w hSw; (try dsimp only at hSw); go_split_ands; go_simp; try with_reducible rfl)
                try simp only [Act.put, List.setIfInBounds_toArray, List.set_cons_zero, List.set_cons_succ]
                refine wpAnyH_take (i := 6) (oi := ⟨some 53, _, _, _, _, _⟩) (v := ?_) rfl (by kernel_rfl) (by kernel_rfl) (by kernel_rfl) (fun _ _ _ h => h) (Or.inl ⟨by rfl, ?_⟩) (by assumption) ?_
                rotate_left
                · (intro w hSw; (try dsimp only at hSw); go_split_ands; go_simp; try with_reducible rfl)
                try simp only [Act.put, List.setIfInBounds_toArray, List.set_cons_zero, List.set_cons_succ]
                refine wpAnyH_take (i := 7) (oi := ⟨some 54, _, _, _, _, _⟩) (v := ?_) rfl (by kernel_rfl) (by kernel_rfl) (by kernel_rfl) (fun _ _ _ h => h) (Or.inl ⟨by rfl, ?_⟩) (by assumption) ?_
                rotate_left
                · (intro w hSw; (try dsimp only at hSw); go_split_ands; go_simp; try with_reducible rfl)
                try simp only [Act.put, List.setIfInBounds_toArray, List.set_cons_zero, List.set_cons_succ]
                refine wpAnyH_ready (rs := [9]) (by kernel_rfl) (by simp) ?_
                refine AllReadyH.cons rfl (fun K hK => ?_) AllReadyH.nil
                first | (refine wp_store_row 27 (.tmp 9) (.tmp 53) rfl _ (x8.arr t8) rfl rfl 27 #[.slice none 0 0, .slice none 0 0, .slice none 0 0, .int .i32 0, .int .i64 0, .int .i8 0, .int .i64 0] (heap_alloc_new _ _) (by kernel_rfl) rfl (arr_one _ _) ?_) | (refine wp_store_row 27 (.tmp 9) (.tmp 53) rfl _ (x8.arr t8) rfl rfl 27 #[.slice none 0 0, .slice none 0 0, .slice none 0 0, .int .i32 0, .int .i64 0, .int .i8 0, .int .i64 0] (blk_after HB8.out) (by kernel_rfl) rfl (arr_one _ _) ?_) | (refine wp_store_row 27 (.tmp 9) (.tmp 53) rfl _ (x8.arr t8) rfl rfl 27 #[.slice none 0 0, .slice none 0 0, .slice none 0 0, .int .i32 0, .int .i64 0, .int .i8 0, .int .i64 0] (blk_after2 HB6.out HB8.out) (by kernel_rfl) rfl (arr_one _ _) ?_) | (refine wp_store_row 27 (.tmp 9) (.tmp 53) rfl _ (x8.arr t8) rfl rfl 27 #[.slice none 0 0, .slice none 0 0, .slice none 0 0, .int .i32 0, .int .i64 0, .int .i8 0, .int .i64 0] (blk_after2 HB7.out HB8.out) (by kernel_rfl) rfl (arr_one _ _) ?_) | (refine wp_store_row 27 (.tmp 9) (.tmp 53) rfl _ (x8.arr t8) rfl rfl 27 #[.slice none 0 0, .slice none 0 0, .slice none 0 0, .int .i32 0, .int .i64 0, .int .i8 0, .int .i64 0] (blk_after2 HB6.out (G.bl_trans HB7.out HB8.out)) (by kernel_rfl) rfl (arr_one _ _) ?_) | (refine wp_store_row 27 (.tmp 9) (.tmp 53) rfl _ (x8.arr t8) rfl rfl 27 #[.slice none 0 0, .slice none 0 0, .slice none 0 0, .int .i32 0, .int .i64 0, .int .i8 0, .int .i64 0] (blk_after3 HB6.out (G.bl_trans HB7.out HB8.out)) (by kernel_rfl) rfl (arr_one _ _) ?_) | (refine wp_store_row 27 (.tmp 9) (.tmp 53) rfl _ (x8.arr t8) rfl rfl 27 #[.slice none 0 0, .slice none 0 0, .slice none 0 0, .int .i32 0, .int .i64 0, .int .i8 0, .int .i64 0] (blk_after3 HB7.out (G.bl_trans HB6.out HB8.out)) (by kernel_rfl) rfl (arr_one _ _) ?_)
                try simp only [Act.put, List.getElem_toArray, List.getElem_cons_succ, List.getElem_cons_zero]
                refine hK.out _ _ ?_ (fun hHeld => ?_)
                · exact TwH.row (by assumption) (by have s6 := HB6.out.size; have s7 := HB7.out.size; have s8 := HB8.out.size; first | omega | (simp at s6 s7 s8 ⊢; omega))
                clear hK K
                try simp only [Act.put, List.setIfInBounds_toArray, List.set_cons_zero, List.set_cons_succ]
                refine wpAnyH_take (i := 10) (oi := ⟨some 10, _, _, _, _, _⟩) (v := ?_) rfl (by kernel_rfl) (by kernel_rfl) (by kernel_rfl) (fun _ _ _ h => h) (Or.inl ⟨by rfl, ?_⟩) (by assumption) ?_
                rotate_left
                · (intro w hSw; (try dsimp only at hSw); go_split_ands; go_simp; try with_reducible rfl)
                try simp only [Act.put, List.setIfInBounds_toArray, List.set_cons_zero, List.set_cons_succ]
                refine wpAnyH_done (by kernel_rfl) ?_ _
                go_wp2_with fail
                go_meet
                case rel => first | exact callRel_mk (HO8.out.below (G.bl_alloc (Below.refl _ _) _)) hHeld.bl (G.Blk.new _ _ _) (by have s6 := HB6.out.size; have s7 := HB7.out.size; have s8 := HB8.out.size; first | omega | (simp at s6 s7 s8 ⊢; omega)) HC8.out | exact callRel_mk HO8.out hHeld.bl (blk_after HB8.out) (by have s6 := HB6.out.size; have s7 := HB7.out.size; have s8 := HB8.out.size; first | omega | (simp at s6 s7 s8 ⊢; omega)) HC8.out | exact callRel_mk HO8.out hHeld.bl (blk_after2 HB6.out HB8.out) (by have s6 := HB6.out.size; have s7 := HB7.out.size; have s8 := HB8.out.size; first | omega | (simp at s6 s7 s8 ⊢; omega)) HC8.out | exact callRel_mk HO8.out hHeld.bl (blk_after2 HB7.out HB8.out) (by have s6 := HB6.out.size; have s7 := HB7.out.size; have s8 := HB8.out.size; first | omega | (simp at s6 s7 s8 ⊢; omega)) HC8.out | exact callRel_mk HO8.out hHeld.bl (blk_after2 HB6.out (G.bl_trans HB7.out HB8.out)) (by have s6 := HB6.out.size; have s7 := HB7.out.size; have s8 := HB8.out.size; first | omega | (simp at s6 s7 s8 ⊢; omega)) HC8.out | exact callRel_mk HO8.out hHeld.bl (blk_after3 HB6.out (G.bl_trans HB7.out HB8.out)) (by have s6 := HB6.out.size; have s7 := HB7.out.size; have s8 := HB8.out.size; first | omega | (simp at s6 s7 s8 ⊢; omega)) HC8.out | exact callRel_mk HO8.out hHeld.bl (blk_after3 HB7.out (G.bl_trans HB6.out HB8.out)) (by have s6 := HB6.out.size; have s7 := HB7.out.size; have s8 := HB8.out.size; first | omega | (simp at s6 s7 s8 ⊢; omega)) HC8.out
              exact AllReadyH.nil
            refine AllReadyH.cons rfl (fun K hK => ?_) ?_
            · go_simp
              go_wp2_with fail
              refine hK.out _ _ ?_ (fun hHeld => ?_)
              · exact TwH.below (by assumption) (G.bl_alloc (Below.refl _ _) _)
              clear hK K
              try simp only [Act.put, List.setIfInBounds_toArray, List.set_cons_zero, List.set_cons_succ]
              refine wpAnyH_ready (rs := [3]) (by kernel_rfl) (by simp) ?_
              refine AllReadyH.cons rfl (fun K hK => ?_) AllReadyH.nil
              go_simp
              (refine (HCE.out _ hHeld.bl).mono ?_; rintro e7 w7 hp7; obtain ⟨y7, rfl, ho7, hb7⟩ := hp7; have HB7 := Lib.hid hb7; have HO7 := Lib.hid ho7.rd; clear ho7 hb7)
              go_wp2_with fail
              refine hK.out _ _ ?_ (fun hHeld => ?_)
              · exact TwH.below (by assumption) HB7.out
              clear hK K
              try simp only [Act.put, List.setIfInBounds_toArray, List.set_cons_zero, List.set_cons_succ]
              refine wpAnyH_ready (rs := [4]) (by kernel_rfl) (by simp) ?_
              refine AllReadyH.cons rfl (fun K hK => ?_) AllReadyH.nil
              go_simp
              (refine (undo_any x6 t5 y7 e _ (HO6.out.below (by first | exact Below.refl _ _ | exact G.bl_alloc (Below.refl _ _) _ | exact HB7.out | exact G.bl_alloc HB7.out _ | exact G.bl_trans (G.bl_alloc (Below.refl _ _) _) HB7.out)) (may_sz HM5.out) (RdEv.below HO7.out (by first | exact Below.refl _ _ | exact G.bl_alloc (Below.refl _ _) _ | exact HB6.out | exact G.bl_alloc HB6.out _ | exact G.bl_trans (G.bl_alloc (Below.refl _ _) _) HB6.out)) HF.out HL.out).mono ?_; rintro e8 w8 hp8; obtain ⟨x8, t8, k8, rfl, ho8, hb8, hc8⟩ := hp8; have HB8 := Lib.hid hb8; have HO8 := Lib.hid ho8; have HC8 := Lib.hid hc8; clear ho8 hb8 hc8)
              go_wp2_with fail
              refine hK.out _ _ ?_ (fun hHeld => ?_)
              · exact TwH.below (by assumption) HB8.out
              clear hK K
              try simp only [Act.put, List.setIfInBounds_toArray, List.set_cons_zero, List.set_cons_succ]
              refine wpAnyH_take (i := 5) (oi := ⟨some 47, _, _, _, _, _⟩) (v := ?_) rfl (by kernel_rfl) (by kernel_rfl) (by kernel_rfl) (fun _ _ _ h => h) (Or.inl ⟨by rfl, ?_⟩) (by assumption) ?_
              rotate_left
              · (intro w hSw; (try dsimp only at hSw); go_split_ands; go_simp; try with_reducible rfl)
              try simp only [Act.put, List.setIfInBounds_toArray, List.set_cons_zero, List.set_cons_succ]
              refine wpAnyH_take (i := 6) (oi := ⟨some 53, _, _, _, _, _⟩) (v := ?_) rfl (by kernel_rfl) (by kernel_rfl) (by kernel_rfl) (fun _ _ _ h => h) (Or.inl ⟨by rfl, ?_⟩) (by assumption) ?_
              rotate_left
              · (intro w hSw; (try dsimp only at hSw); go_split_ands; go_simp; try with_reducible rfl)
              try simp only [Act.put, List.setIfInBounds_toArray, List.set_cons_zero, List.set_cons_succ]
              refine wpAnyH_take (i := 7) (oi := ⟨some 54, _, _, _, _, _⟩) (v := ?_) rfl (by kernel_rfl) (by kernel_rfl) (by kernel_rfl) (fun _ _ _ h => h) (Or.inl ⟨by rfl, ?_⟩) (by assumption) ?_
              rotate_left
              · (intro w hSw; (try dsimp only at hSw); go_split_ands; go_simp; try with_reducible rfl)
              try simp only [Act.put, List.setIfInBounds_toArray, List.set_cons_zero, List.set_cons_succ]
              refine wpAnyH_ready (rs := [9]) (by kernel_rfl) (by simp) ?_
              refine AllReadyH.cons rfl (fun K hK => ?_) AllReadyH.nil
              first | (refine wp_store_row 27 (.tmp 9) (.tmp 53) rfl _ (x8.arr t8) rfl rfl 27 #[.slice none 0 0, .slice none 0 0, .slice none 0 0, .int .i32 0, .int .i64 0, .int .i8 0, .int .i64 0] (heap_alloc_new _ _) (by kernel_rfl) rfl (arr_one _ _) ?_) | (refine wp_store_row 27 (.tmp 9) (.tmp 53) rfl _ (x8.arr t8) rfl rfl 27 #[.slice none 0 0, .slice none 0 0, .slice none 0 0, .int .i32 0, .int .i64 0, .int .i8 0, .int .i64 0] (blk_after HB8.out) (by kernel_rfl) rfl (arr_one _ _) ?_) | (refine wp_store_row 27 (.tmp 9) (.tmp 53) rfl _ (x8.arr t8) rfl rfl 27 #[.slice none 0 0, .slice none 0 0, .slice none 0 0, .int .i32 0, .int .i64 0, .int .i8 0, .int .i64 0] (blk_after2 HB6.out HB8.out) (by kernel_rfl) rfl (arr_one _ _) ?_) | (refine wp_store_row 27 (.tmp 9) (.tmp 53) rfl _ (x8.arr t8) rfl rfl 27 #[.slice none 0 0, .slice none 0 0, .slice none 0 0, .int .i32 0, .int .i64 0, .int .i8 0, .int .i64 0] (blk_after2 HB7.out HB8.out) (by kernel_rfl) rfl (arr_one _ _) ?_) | (refine wp_store_row 27 (.tmp 9) (.tmp 53) rfl _ (x8.arr t8) rfl rfl 27 #[.slice none 0 0, .slice none 0 0, .slice none 0 0, .int .i32 0, .int .i64 0, .int .i8 0, .int .i64 0] (blk_after2 HB6.out (G.bl_trans HB7.out HB8.out)) (by kernel_rfl) rfl (arr_one _ _) ?_) | (refine wp_store_row 27 (.tmp 9) (.tmp 53) rfl _ (x8.arr t8) rfl rfl 27 #[.slice none 0 0, .slice none 0 0, .slice none 0 0, .int .i32 0, .int .i64 0, .int .i8 0, .int .i64 0] (blk_after3 HB6.out (G.bl_trans HB7.out HB8.out)) (by kernel_rfl) rfl (arr_one _ _) ?_) | (refine wp_store_row 27 (.tmp 9) (.tmp 53) rfl _ (x8.arr t8) rfl rfl 27 #[.slice none 0 0, .slice none 0 0, .slice none 0 0, .int .i32 0, .int .i64 0, .int .i8 0, .int .i64 0] (blk_after3 HB7.out (G.bl_trans HB6.out HB8.out)) (by kernel_rfl) rfl (arr_one _ _) ?_)
              try simp only [Act.put, List.getElem_toArray, List.getElem_cons_succ, List.getElem_cons_zero]
              refine hK.out _ _ ?_ (fun hHeld => ?_)
              · exact TwH.row (by assumption) (by have s6 := HB6.out.size; have s7 := HB7.out.size; have s8 := HB8.out.size; first | omega | (simp at s6 s7 s8 ⊢; omega))
              clear hK K
              try simp only [Act.put, List.setIfInBounds_toArray, List.set_cons_zero, List.set_cons_succ]
              refine wpAnyH_take (i := 10) (oi := ⟨some 10, _, _, _, _, _⟩) (v := ?_) rfl (by kernel_rfl) (by kernel_rfl) (by kernel_rfl) (fun _ _ _ h => h) (Or.inl ⟨by rfl, ?_⟩) (by assumption) ?_
              rotate_left
              · (intro w hSw; (try dsimp only at hSw); go_split_ands; go_simp; try with_reducible rfl)
              try simp only [Act.put, List.setIfInBounds_toArray, List.set_cons_zero, List.set_cons_succ]
              refine wpAnyH_done (by kernel_rfl) ?_ _
              go_wp2_with fail
              go_meet
              case rel => first | exact callRel_mk (HO8.out.below (G.bl_alloc (Below.refl _ _) _)) hHeld.bl (G.Blk.new _ _ _) (by have s6 := HB6.out.size; have s7 := HB7.out.size; have s8 := HB8.out.size; first | omega | (simp at s6 s7 s8 ⊢; omega)) HC8.out | exact callRel_mk HO8.out hHeld.bl (blk_after HB8.out) (by have s6 := HB6.out.size; have s7 := HB7.out.size; have s8 := HB8.out.size; first | omega | (simp at s6 s7 s8 ⊢; omega)) HC8.out | exact callRel_mk HO8.out hHeld.bl (blk_after2 HB6.out HB8.out) (by have s6 := HB6.out.size; have s7 := HB7.out.size; have s8 := HB8.out.size; first | omega | (simp at s6 s7 s8 ⊢; omega)) HC8.out | exact callRel_mk HO8.out hHeld.bl (blk_after2 HB7.out HB8.out) (by have s6 := HB6.out.size; have s7 := HB7.out.size; have s8 := HB8.out.size; first | omega | (simp at s6 s7 s8 ⊢; omega)) HC8.out | exact callRel_mk HO8.out hHeld.bl (blk_after2 HB6.out (G.bl_trans HB7.out HB8.out)) (by have s6 := HB6.out.size; have s7 := HB7.out.size; have s8 := HB8.out.size; first | omega | (simp at s6 s7 s8 ⊢; omega)) HC8.out | exact callRel_mk HO8.out hHeld.bl (blk_after3 HB6.out (G.bl_trans HB7.out HB8.out)) (by have s6 := HB6.out.size; have s7 := HB7.out.size; have s8 := HB8.out.size; first | omega | (simp at s6 s7 s8 ⊢; omega)) HC8.out | exact callRel_mk HO8.out hHeld.bl (blk_after3 HB7.out (G.bl_trans HB6.out HB8.out)) (by have s6 := HB6.out.size; have s7 := HB7.out.size; have s8 := HB8.out.size; first | omega | (simp at s6 s7 s8 ⊢; omega)) HC8.out
            exact AllReadyH.nil
          refine AllReadyH.cons rfl (fun K hK => ?_) ?_
          · go_simp
            go_wp2_with fail
            refine hK.out _ _ ?_ (fun hHeld => ?_)
            · exact TwH.below (by assumption) (G.bl_alloc (Below.refl _ _) _)
            clear hK K
            try simp only [Act.put, List.setIfInBounds_toArray, List.set_cons_zero, List.set_cons_succ]
            refine wpAnyH_ready (rs := [1]) (by kernel_rfl) (by simp) ?_
            refine AllReadyH.cons rfl (fun K hK => ?_) AllReadyH.nil
            go_simp
            (refine (HCP.out _ hHeld.bl).mono ?_; rintro e6 w6 hp6; obtain ⟨x6, rfl, ho6, hb6⟩ := hp6; have HB6 := Lib.hid hb6; have HO6 := Lib.hid ho6.rd; clear ho6 hb6)
            go_wp2_with fail
            refine hK.out _ _ ?_ (fun hHeld => ?_)
            · exact TwH.below (by assumption) HB6.out
            clear hK K
            try simp only [Act.put, List.setIfInBounds_toArray, List.set_cons_zero, List.set_cons_succ]
            refine wpAnyH_ready (rs := [3]) (by kernel_rfl) (by simp) ?_
            refine AllReadyH.cons rfl (fun K hK => ?_) AllReadyH.nil
            go_simp
            (refine (HCE.out _ hHeld.bl).mono ?_; rintro e7 w7 hp7; obtain ⟨y7, rfl, ho7, hb7⟩ := hp7; have HB7 := Lib.hid hb7; have HO7 := Lib.hid ho7.rd; clear ho7 hb7)
            go_wp2_with fail
            refine hK.out _ _ ?_ (fun hHeld => ?_)
            · exact TwH.below (by assumption) HB7.out
            clear hK K
            try simp only [Act.put, List.setIfInBounds_toArray, List.set_cons_zero, List.set_cons_succ]
            refine wpAnyH_ready (rs := [4]) (by kernel_rfl) (by simp) ?_
            refine AllReadyH.cons rfl (fun K hK => ?_) AllReadyH.nil
            go_simp
            (refine (undo_any x6 t5 y7 e _ (HO6.out.below (by first | exact Below.refl _ _ | exact G.bl_alloc (Below.refl _ _) _ | exact HB7.out | exact G.bl_alloc HB7.out _ | exact G.bl_trans (G.bl_alloc (Below.refl _ _) _) HB7.out)) (may_sz HM5.out) (RdEv.below HO7.out (by first | exact Below.refl _ _ | exact G.bl_alloc (Below.refl _ _) _ | exact HB6.out | exact G.bl_alloc HB6.out _ | exact G.bl_trans (G.bl_alloc (Below.refl _ _) _) HB6.out)) HF.out HL.out).mono ?_; rintro e8 w8 hp8; obtain ⟨x8, t8, k8, rfl, ho8, hb8, hc8⟩ := hp8; have HB8 := Lib.hid hb8; have HO8 := Lib.hid ho8; have HC8 := Lib.hid hc8; clear ho8 hb8 hc8)
            go_wp2_with fail
            refine hK.out _ _ ?_ (fun hHeld => ?_)
            · exact TwH.below (by assumption) HB8.out
            clear hK K
            try simp only [Act.put, List.setIfInBounds_toArray, List.set_cons_zero, List.set_cons_succ]
            refine wpAnyH_take (i := 5) (oi := ⟨some 47, _, _, _, _, _⟩) (v := ?_) rfl (by kernel_rfl) (by kernel_rfl) (by kernel_rfl) (fun _ _ _ h => h) (Or.inl ⟨by rfl, ?_⟩) (by assumption) ?_
            rotate_left
            · (intro w hSw; (try dsimp only at hSw); go_split_ands; go_simp; try with_reducible rfl)
            try simp only [Act.put, List.setIfInBounds_toArray, List.set_cons_zero, List.set_cons_succ]
            refine wpAnyH_take (i := 6) (oi := ⟨some 53, _, _, _, _, _⟩) (v := ?_) rfl (by kernel_rfl) (by kernel_rfl) (by kernel_rfl) (fun _ _ _ h => h) (Or.inl ⟨by rfl, ?_⟩) (by assumption) ?_
            rotate_left
            · (intro w hSw; (try dsimp only at hSw); go_split_ands; go_simp; try with_reducible rfl)
            try simp only [Act.put, List.setIfInBounds_toArray, List.set_cons_zero, List.set_cons_succ]
            refine wpAnyH_take (i := 7) (oi := ⟨some 54, _, _, _, _, _⟩) (v := ?_) rfl (by kernel_rfl) (by kernel_rfl) (by kernel_rfl) (fun _ _ _ h => h) (Or.inl ⟨by rfl, ?_⟩) (by assumption) ?_
            rotate_left
            · (intro w hSw; (try dsimp only at hSw); go_split_ands; go_simp; try with_reducible rfl)
            try simp only [Act.put, List.setIfInBounds_toArray, List.set_cons_zero, List.set_cons_succ]
            refine wpAnyH_ready (rs := [9]) (by kernel_rfl) (by simp) ?_
            refine AllReadyH.cons rfl (fun K hK => ?_) AllReadyH.nil
            first | (refine wp_store_row 27 (.tmp 9) (.tmp 53) rfl _ (x8.arr t8) rfl rfl 27 #[.slice none 0 0, .slice none 0 0, .slice none 0 0, .int .i32 0, .int .i64 0, .int .i8 0, .int .i64 0] (heap_alloc_new _ _) (by kernel_rfl) rfl (arr_one _ _) ?_) | (refine wp_store_row 27 (.tmp 9) (.tmp 53) rfl _ (x8.arr t8) rfl rfl 27 #[.slice none 0 0, .slice none 0 0, .slice none 0 0, .int .i32 0, .int .i64 0, .int .i8 0, .int .i64 0] (blk_after HB8.out) (by kernel_rfl) rfl (arr_one _ _) ?_) | (refine wp_store_row 27 (.tmp 9) (.tmp 53) rfl _ (x8.arr t8) rfl rfl 27 #[.slice none 0 0, .slice none 0 0, .slice none 0 0, .int .i32 0, .int .i64 0, .int .i8 0, .int .i64 0] (blk_after2 HB6.out HB8.out) (by kernel_rfl) rfl (arr_one _ _) ?_) | (refine wp_store_row 27 (.tmp 9) (.tmp 53) rfl _ (x8.arr t8) rfl rfl 27 #[.slice none 0 0, .slice none 0 0, .slice none 0 0, .int .i32 0, .int .i64 0, .int .i8 0, .int .i64 0] (blk_after2 HB7.out HB8.out) (by kernel_rfl) rfl (arr_one _ _) ?_) | (refine wp_store_row 27 (.tmp 9) (.tmp 53) rfl _ (x8.arr t8) rfl rfl 27 #[.slice none 0 0, .slice none 0 0, .slice none 0 0, .int .i32 0, .int .i64 0, .int .i8 0, .int .i64 0] (blk_after2 HB6.out (G.bl_trans HB7.out HB8.out)) (by kernel_rfl) rfl (arr_one _ _) ?_) | (refine wp_store_row 27 (.tmp 9) (.tmp 53) rfl _ (x8.arr t8) rfl rfl 27 #[.slice none 0 0, .slice none 0 0, .slice none 0 0, .int .i32 0, .int .i64 0, .int .i8 0, .int .i64 0] (blk_after3 HB6.out (G.bl_trans HB7.out HB8.out)) (by kernel_rfl) rfl (arr_one _ _) ?_) | (refine wp_store_row 27 (.tmp 9) (.tmp 53) rfl _ (x8.arr t8) rfl rfl 27 #[.slice none 0 0, .slice none 0 0, .slice none 0 0, .int .i32 0, .int .i64 0, .int .i8 0, .int .i64 0] (blk_after3 HB7.out (G.bl_trans HB6.out HB8.out)) (by kernel_rfl) rfl (arr_one _ _) ?_)
            try simp only [Act.put, List.getElem_toArray, List.getElem_cons_succ, List.getElem_cons_zero]
            refine hK.out _ _ ?_ (fun hHeld => ?_)
            · exact TwH.row (by assumption) (by have s6 := HB6.out.size; have s7 := HB7.out.size; have s8 := HB8.out.size; first | omega | (simp at s6 s7 s8 ⊢; omega))
            clear hK K
            try simp only [Act.put, List.setIfInBounds_toArray, List.set_cons_zero, List.set_cons_succ]
            refine wpAnyH_take (i := 10) (oi := ⟨some 10, _, _, _, _, _⟩) (v := ?_) rfl (by kernel_rfl) (by kernel_rfl) (by kernel_rfl) (fun _ _ _ h => h) (Or.inl ⟨by rfl, ?_⟩) (by assumption) ?_
            rotate_left
            · (intro w hSw; (try dsimp only at hSw); go_split_ands; go_simp; try with_reducible rfl)
            try simp only [Act.put, List.setIfInBounds_toArray, List.set_cons_zero, List.set_cons_succ]
            refine wpAnyH_done (by kernel_rfl) ?_ _
            go_wp2_with fail
            go_meet
            case rel => first | exact callRel_mk (HO8.out.below (G.bl_alloc (Below.refl _ _) _)) hHeld.bl (G.Blk.new _ _ _) (by have s6 := HB6.out.size; have s7 := HB7.out.size; have s8 := HB8.out.size; first | omega | (simp at s6 s7 s8 ⊢; omega)) HC8.out | exact callRel_mk HO8.out hHeld.bl (blk_after HB8.out) (by have s6 := HB6.out.size; have s7 := HB7.out.size; have s8 := HB8.out.size; first | omega | (simp at s6 s7 s8 ⊢; omega)) HC8.out | exact callRel_mk HO8.out hHeld.bl (blk_after2 HB6.out HB8.out) (by have s6 := HB6.out.size; have s7 := HB7.out.size; have s8 := HB8.out.size; first | omega | (simp at s6 s7 s8 ⊢; omega)) HC8.out | exact callRel_mk HO8.out hHeld.bl (blk_after2 HB7.out HB8.out) (by have s6 := HB6.out.size; have s7 := HB7.out.size; have s8 := HB8.out.size; first | omega | (simp at s6 s7 s8 ⊢; omega)) HC8.out | exact callRel_mk HO8.out hHeld.bl (blk_after2 HB6.out (G.bl_trans HB7.out HB8.out)) (by have s6 := HB6.out.size; have s7 := HB7.out.size; have s8 := HB8.out.size; first | omega | (simp at s6 s7 s8 ⊢; omega)) HC8.out | exact callRel_mk HO8.out hHeld.bl (blk_after3 HB6.out (G.bl_trans HB7.out HB8.out)) (by have s6 := HB6.out.size; have s7 := HB7.out.size; have s8 := HB8.out.size; first | omega | (simp at s6 s7 s8 ⊢; omega)) HC8.out | exact callRel_mk HO8.out hHeld.bl (blk_after3 HB7.out (G.bl_trans HB6.out HB8.out)) (by have s6 := HB6.out.size; have s7 := HB7.out.size; have s8 := HB8.out.size; first | omega | (simp at s6 s7 s8 ⊢; omega)) HC8.out
          exact AllReadyH.nil
        obtain ⟨g9, x9, t9, k9, rfl, rfl, hB9, hR9, hb9, hc9⟩ := hcut
        obtain ⟨rfl, rfl⟩ : k9 = 0 ∧ t9 = s := by
          rcases hc9 with ⟨a, _, b⟩ | ⟨_, _, b, _⟩ | ⟨_, b, _⟩
          · exact ⟨a, Option.some.inj (b.symm.trans HU5.out)⟩
          · rw [HU5.out] at b
            cases b
          · exact absurd HM5.out b
        obtain ⟨w5, hw5⟩ : ∃ w5 : World, w5 = wc := ⟨_, rfl⟩
        subst hw5
        have HB9 := Lib.hid hB9
        have HBY9 := Lib.hid hb9
        have HBC := Lib.hid (Below.refl w5.heap.size w5)
        have HB5 := Lib.hid (HB5.out.below hb9 HB5.out.lt)
        have HXC := Lib.hid (HXC.out.below hb9 HXC.out.lt)
        have HR5 := Lib.hid (HR5.out.below hb9)
        have HXS := Lib.hid (HXS.out.below hb9)
        have HR9 := Lib.hid hR9
        have HE1 := Lib.hid (fun W (hW : Below w5.heap.size w5 W) => (show Calls Tryz.prog 17 #[.agg (x9.arr t9), .agg cs] W (BoolPost true W) by
          have h9 := eqState_any x9 x t9 t9 W (HR9.out.below hW) (HXS.out.below hW) HSZ.out HSZ.out
          rw [decide_eq_true rfl, HV1.out] at h9
          exact h9))
        have HE2 := Lib.hid (fun W (hW : Below w5.heap.size w5 W) => (show Calls Tryz.prog 29 #[.agg (x5.arr t5)] W (BoolPost true W) by
          have h9 := lawMay_any x5 t5 W (HR5.out.below hW) (may_sz HM5.out)
          rw [may_yes HM5.out] at h9
          exact h9))
        have HE3 := Lib.hid (fun W (hW : Below w5.heap.size w5 W) => (show Calls Tryz.prog 30 #[.agg cs, .agg (x5.arr t5)] W (BoolPost true W) by
          have h9 := sameCards_any x x5 t9 t5 W (HXS.out.below hW) (HR5.out.below hW) HM5.out HK5.out
          rw [HV1.out] at h9
          exact h9))
        have HE4 := Lib.hid (fun W (hW : Below w5.heap.size w5 W) => (show Calls Tryz.prog 17 #[.agg (x5.arr t5), .agg cs] W (BoolPost false W) by
          have h9 := eqState_any x5 x t5 t9 W (HR5.out.below hW) (HXS.out.below hW) (may_sz HM5.out) HSZ.out
          rw [decide_eq_false HN5.out, HV1.out] at h9
          exact h9))
        clear hB9 hR9 hb9 hc9
        go_wp2_with (first | (refine wpList_load_row_g (by rfl) 27 _ rfl g rfl _ cs (0, 0) _ HXC.out HFS.out rfl (by rw [HS.out]; exact sizeSt) ?_) | (refine wpList_load_row_g (by rfl) 27 _ rfl g9 rfl _ (x9.arr t9) (0, 0) _ HB9.out HFS.out rfl sizeSt ?_))
        refine (HE1.out _ HBC.out).mono ?_
        rintro e20 w20 ⟨rfl, hb20⟩
        have HN20 := Lib.hid hb20
        clear hb20
        have HBC := Lib.hid (G.bl_trans HBC.out HN20.out)
        have HXC := Lib.hid (HXC.out.below HN20.out HXC.out.lt)
        have HB5 := Lib.hid (HB5.out.below HN20.out HB5.out.lt)
        go_wp2_with (first | (refine wpList_load_row_g (by rfl) 27 _ rfl g5 rfl _ (x5.arr t5) (0, 0) _ HB5.out HFS.out rfl sizeSt ?_))
        refine (HE2.out _ HBC.out).mono ?_
        rintro e21 w21 ⟨rfl, hb21⟩
        have HN21 := Lib.hid hb21
        clear hb21
        have HBC := Lib.hid (G.bl_trans HBC.out HN21.out)
        have HXC := Lib.hid (HXC.out.below HN21.out HXC.out.lt)
        have HB5 := Lib.hid (HB5.out.below HN21.out HB5.out.lt)
        go_wp2_with (first | (refine wpList_load_row_g (by rfl) 27 _ rfl g rfl _ cs (0, 0) _ HXC.out HFS.out rfl (by rw [HS.out]; exact sizeSt) ?_) | (refine wpList_load_row_g (by rfl) 27 _ rfl g5 rfl _ (x5.arr t5) (0, 0) _ HB5.out HFS.out rfl sizeSt ?_))
        refine (HE3.out _ HBC.out).mono ?_
        rintro e22 w22 ⟨rfl, hb22⟩
        have HN22 := Lib.hid hb22
        clear hb22
        have HBC := Lib.hid (G.bl_trans HBC.out HN22.out)
        have HXC := Lib.hid (HXC.out.below HN22.out HXC.out.lt)
        have HB5 := Lib.hid (HB5.out.below HN22.out HB5.out.lt)
        go_wp2_with (first | (refine wpList_load_row_g (by rfl) 27 _ rfl g rfl _ cs (0, 0) _ HXC.out HFS.out rfl (by rw [HS.out]; exact sizeSt) ?_) | (refine wpList_load_row_g (by rfl) 27 _ rfl g5 rfl _ (x5.arr t5) (0, 0) _ HB5.out HFS.out rfl sizeSt ?_))
        refine (HE4.out _ HBC.out).mono ?_
        rintro e23 w23 ⟨rfl, hb23⟩
        have HN23 := Lib.hid hb23
        clear hb23
        have HBC := Lib.hid (G.bl_trans HBC.out HN23.out)
        have HXC := Lib.hid (HXC.out.below HN23.out HXC.out.lt)
        have HB5 := Lib.hid (HB5.out.below HN23.out HB5.out.lt)
        go_wp2_with fail
        go_meet
        case rel => exact G.bl_trans HBY9.out HBC.out
      · subst hk5 ht5
        have HBC := Lib.hid (Below.refl w10.heap.size w10)
        have HE1 := Lib.hid (fun W (hW : Below w10.heap.size w10 W) => (show Calls Tryz.prog 17 #[.agg (x5.arr zeroSt), .agg #[.slice none 0 0, .slice none 0 0, .slice none 0 0, .int .i32 0, .int .i64 0, .int .i8 0, .int .i64 0]] W (BoolPost true W) by
          have h9 := eqState_any x5 zeroSV zeroSt zeroSt W (HR5.out.below hW) (zero_rd W) zero_sz zero_sz
          rw [decide_eq_true rfl] at h9
          exact h9))
        go_wp2_with (first | (refine wpList_load_row_g (by rfl) 27 _ rfl g5 rfl _ (x5.arr zeroSt) (0, 0) _ HB5.out HFS.out rfl sizeSt ?_))
        refine (HE1.out _ HBC.out).mono ?_
        rintro e20 w20 ⟨rfl, hb20⟩
        have HN20 := Lib.hid hb20
        clear hb20
        have HBC := Lib.hid (G.bl_trans HBC.out HN20.out)
        go_wp2_with fail
        go_meet
        case rel => exact HBC.out
      · exact absurd HM.out hno
    obtain ⟨w6, hw6⟩ : ∃ w6 : World, w6 = wc := ⟨_, rfl⟩
    subst hw6
    have HBL6 := Lib.hid (G.bl_trans HBL10.out hcut)
    have HXC := Lib.hid (HXC.out.below hcut HXC.out.lt)
    have HEC := Lib.hid (HEC.out.below hcut HEC.out.lt)
    have HB7 := Lib.hid (HB7.out.below hcut HB7.out.lt)
    have HR7 := Lib.hid (HR7.out.below hcut)
    have HXS := Lib.hid (HXS.out.below hcut)
    have HLI := Lib.hid (fun W (hW : Below w6.heap.size w6 W) => lives_any W)
    clear hcut
    rcases HC7.out with ⟨hk7, _, hs7⟩ | ⟨hk7, _, _, ht7⟩ | ⟨_, hno, _⟩
    · subst hk7
      rw [← undoE_eq e HM.out] at hs7
      obtain ⟨f1, f2, f3⟩ := undo_facts hs7 HM.out
      have HU7 := Lib.hid f1
      have HM7 := Lib.hid f2
      have HK7 := Lib.hid f3
      clear hs7 f1 f2 f3
      have HTW := Lib.hid (show TwH w6 g7 (x7.arr t7) (g + 1) ce w6 from ⟨Below.refl _ _, HB7.out, HEC.out, rfl, HSE.out, HB7.out.lt, HEC.out.lt⟩)
      have HCP := Lib.hid (fun W (hW : Below w6.heap.size w6 W) => copyState_any x7 t7 W (HR7.out.below hW) (may_sz HM7.out))
      have HCE := Lib.hid (fun W (hW : Below w6.heap.size w6 W) => HCEw.out W (G.bl_trans HBL6.out hW))
      go_upto_region 14 with (fail)
      go_cut [11, 12] from 13 to 125 (fun s11 s12 wx => CallRel w6 t7 (stepE t7 e false) s11 s12 wx)
      case first =>
        refine wp_region_held_drew (S := TwH w6 g7 (x7.arr t7) (g + 1) ce) (by kernel_rfl) ?_ (fun hHeld => ?_)
        · exact TwH.below HTW.out (Below.refl _ _).drew
        refine wpAnyH_take (i := 0) (oi := ⟨some 90, _, _, _, _, _⟩) (v := ?_) rfl (by kernel_rfl) (by kernel_rfl) (by kernel_rfl) (fun _ _ _ h => h) (Or.inl ⟨by rfl, ?_⟩) (by assumption) ?_
        rotate_left
        · (intro w hSw; refine exec_load_held 27 (.tmp 7) ?_ g7 ?_ _ (run_st hSw.bx hSw.sx) <;> rfl)
        try simp only [Act.put, List.setIfInBounds_toArray, List.set_cons_zero, List.set_cons_succ]
        refine wpAnyH_take (i := 2) (oi := ⟨some 92, _, _, _, _, _⟩) (v := ?_) rfl (by kernel_rfl) (by kernel_rfl) (by kernel_rfl) (fun _ _ _ h => h) (Or.inl ⟨by rfl, ?_⟩) (by assumption) ?_
        rotate_left
        · (intro w hSw; refine exec_load_held 30 (.tmp 3) ?_ (g + 1) ?_ _ (run_ev hSw.be hSw.se) <;> rfl)
        try simp only [Act.put, List.setIfInBounds_toArray, List.set_cons_zero, List.set_cons_succ]
        refine wpAnyH_ready (rs := [1, 8]) (by kernel_rfl) (by simp) ?_
        refine AllReadyH.cons rfl (fun K hK => ?_) ?_
        · go_simp
          (refine (HCP.out _ hHeld.bl).mono ?_; rintro e6 w6 hp6; obtain ⟨x6, rfl, ho6, hb6⟩ := hp6; have HB6 := Lib.hid hb6; have HO6 := Lib.hid ho6.rd; clear ho6 hb6)
          go_wp2_with fail
          refine hK.out _ _ ?_ (fun hHeld => ?_)
          · exact TwH.below (by assumption) HB6.out
          clear hK K
          try simp only [Act.put, List.setIfInBounds_toArray, List.set_cons_zero, List.set_cons_succ]
          refine wpAnyH_ready (rs := [3, 8]) (by kernel_rfl) (by simp) ?_
          refine AllReadyH.cons rfl (fun K hK => ?_) ?_
          · go_simp
            (refine (HCE.out _ hHeld.bl).mono ?_; rintro e7 w7 hp7; obtain ⟨y7, rfl, ho7, hb7⟩ := hp7; have HB7 := Lib.hid hb7; have HO7 := Lib.hid ho7.rd; clear ho7 hb7)
            go_wp2_with fail
            refine hK.out _ _ ?_ (fun hHeld => ?_)
            · exact TwH.below (by assumption) HB7.out
            clear hK K
            try simp only [Act.put, List.setIfInBounds_toArray, List.set_cons_zero, List.set_cons_succ]
            refine wpAnyH_ready (rs := [4, 8]) (by kernel_rfl) (by simp) ?_
            refine AllReadyH.cons rfl (fun K hK => ?_) ?_
            · go_simp
              (refine (apply_any x6 t7 y7 e _ (HO6.out.below (by first | exact Below.refl _ _ | exact G.bl_alloc (Below.refl _ _) _ | exact HB7.out | exact G.bl_alloc HB7.out _ | exact G.bl_trans (G.bl_alloc (Below.refl _ _) _) HB7.out)) (may_sz HM7.out) (RdEv.below HO7.out (by first | exact Below.refl _ _ | exact G.bl_alloc (Below.refl _ _) _ | exact HB6.out | exact G.bl_alloc HB6.out _ | exact G.bl_trans (G.bl_alloc (Below.refl _ _) _) HB6.out)) HF.out HL.out).mono ?_; rintro e8 w8 hp8; obtain ⟨x8, t8, k8, rfl, ho8, hb8, hc8⟩ := hp8; have HB8 := Lib.hid hb8; have HO8 := Lib.hid ho8; have HC8 := Lib.hid hc8; clear ho8 hb8 hc8)
              go_wp2_with fail
              refine hK.out _ _ ?_ (fun hHeld => ?_)
              · exact TwH.below (by assumption) HB8.out
              clear hK K
              try simp only [Act.put, List.setIfInBounds_toArray, List.set_cons_zero, List.set_cons_succ]
              refine wpAnyH_take (i := 5) (oi := ⟨some 89, _, _, _, _, _⟩) (v := ?_) rfl (by kernel_rfl) (by kernel_rfl) (by kernel_rfl) (fun _ _ _ h => h) (Or.inl ⟨by rfl, ?_⟩) (by assumption) ?_
              rotate_left
              · (intro w hSw; (try dsimp only at hSw); go_split_ands; go_simp; try with_reducible rfl)
              try simp only [Act.put, List.setIfInBounds_toArray, List.set_cons_zero, List.set_cons_succ]
              refine wpAnyH_take (i := 6) (oi := ⟨some 95, _, _, _, _, _⟩) (v := ?_) rfl (by kernel_rfl) (by kernel_rfl) (by kernel_rfl) (fun _ _ _ h => h) (Or.inl ⟨by rfl, ?_⟩) (by assumption) ?_
              rotate_left
              · (intro w hSw; (try dsimp only at hSw); go_split_ands; go_simp; try with_reducible rfl)
              try simp only [Act.put, List.setIfInBounds_toArray, List.set_cons_zero, List.set_cons_succ]
              refine wpAnyH_take (i := 7) (oi := ⟨some 96, _, _, _, _, _⟩) (v := ?_) rfl (by kernel_rfl) (by kernel_rfl) (by kernel_rfl) (fun _ _ _ h => h) (Or.inl ⟨by rfl, ?_⟩) (by assumption) ?_
              rotate_left
              · (intro w hSw; (try dsimp only at hSw); go_split_ands; go_simp; try with_reducible rfl)
              try simp only [Act.put, List.setIfInBounds_toArray, List.set_cons_zero, List.set_cons_succ]
              refine wpAnyH_ready (rs := [8]) (by kernel_rfl) (by simp) ?_
              refine AllReadyH.cons rfl (fun K hK => ?_) AllReadyH.nil
              go_simp
              go_wp2_with fail
              refine hK.out _ _ ?_ (fun hHeld => ?_)
              · exact TwH.below (by assumption) (G.bl_alloc (Below.refl _ _) _)
              clear hK K
              try simp only [Act.put, List.setIfInBounds_toArray, List.set_cons_zero, List.set_cons_succ]
              refine wpAnyH_ready (rs := [9]) (by kernel_rfl) (by simp) ?_
              refine AllReadyH.cons rfl (fun K hK => ?_) AllReadyH.nil
              first | (refine wp_store_row 27 (.tmp 11) (.tmp 95) rfl _ (x8.arr t8) rfl rfl 27 #[.slice none 0 0, .slice none 0 0, .slice none 0 0, .int .i32 0, .int .i64 0, .int .i8 0, .int .i64 0] (heap_alloc_new _ _) (by kernel_rfl) rfl (arr_one _ _) ?_) | (refine wp_store_row 27 (.tmp 11) (.tmp 95) rfl _ (x8.arr t8) rfl rfl 27 #[.slice none 0 0, .slice none 0 0, .slice none 0 0, .int .i32 0, .int .i64 0, .int .i8 0, .int .i64 0] (blk_after HB8.out) (by kernel_rfl) rfl (arr_one _ _) ?_) | (refine wp_store_row 27 (.tmp 11) (.tmp 95) rfl _ (x8.arr t8) rfl rfl 27 #[.slice none 0 0, .slice none 0 0, .slice none 0 0, .int .i32 0, .int .i64 0, .int .i8 0, .int .i64 0] (blk_after2 HB6.out HB8.out) (by kernel_rfl) rfl (arr_one _ _) ?_) | (refine wp_store_row 27 (.tmp 11) (.tmp 95) rfl _ (x8.arr t8) rfl rfl 27 #[.slice none 0 0, .slice none 0 0, .slice none 0 0, .int .i32 0, .int .i64 0, .int .i8 0, .int .i64 0] (blk_after2 HB7.out HB8.out) (by kernel_rfl) rfl (arr_one _ _) ?_) | (refine wp_store_row 27 (.tmp 11) (.tmp 95) rfl _ (x8.arr t8) rfl rfl 27 #[.slice none 0 0, .slice none 0 0, .slice none 0 0, .int .i32 0, .int .i64 0, .int .i8 0, .int .i64 0] (blk_after2 HB6.out (G.bl_trans HB7.out HB8.out)) (by kernel_rfl) rfl (arr_one _ _) ?_) | (refine wp_store_row 27 (.tmp 11) (.tmp 95) rfl _ (x8.arr t8) rfl rfl 27 #[.slice none 0 0, .slice none 0 0, .slice none 0 0, .int .i32 0, .int .i64 0, .int .i8 0, .int .i64 0] (blk_after3 HB6.out (G.bl_trans HB7.out HB8.out)) (by kernel_rfl) rfl (arr_one _ _) ?_) | (refine wp_store_row 27 (.tmp 11) (.tmp 95) rfl _ (x8.arr t8) rfl rfl 27 #[.slice none 0 0, .slice none 0 0, .slice none 0 0, .int .i32 0, .int .i64 0, .int .i8 0, .int .i64 0] (blk_after3 HB7.out (G.bl_trans HB6.out HB8.out)) (by kernel_rfl) rfl (arr_one _ _) ?_)
              try simp only [Act.put, List.getElem_toArray, List.getElem_cons_succ, List.getElem_cons_zero]
              refine hK.out _ _ ?_ (fun hHeld => ?_)
              · exact TwH.row (by assumption) (by have s6 := HB6.out.size; have s7 := HB7.out.size; have s8 := HB8.out.size; first | omega | (simp at s6 s7 s8 ⊢; omega))
              clear hK K
              try simp only [Act.put, List.setIfInBounds_toArray, List.set_cons_zero, List.set_cons_succ]
              refine wpAnyH_take (i := 10) (oi := ⟨some 12, _, _, _, _, _⟩) (v := ?_) rfl (by kernel_rfl) (by kernel_rfl) (by kernel_rfl) (fun _ _ _ h => h) (Or.inl ⟨by rfl, ?_⟩) (by assumption) ?_
              rotate_left
              · (intro w hSw; (try dsimp only at hSw); go_split_ands; go_simp; try with_reducible rfl)
              try simp only [Act.put, List.setIfInBounds_toArray, List.set_cons_zero, List.set_cons_succ]
              refine wpAnyH_done (by kernel_rfl) ?_ _
              go_wp2_with fail
              go_meet
              case rel => first | exact callRel_mk (HO8.out.below (G.bl_alloc (Below.refl _ _) _)) hHeld.bl (G.Blk.new _ _ _) (by have s6 := HB6.out.size; have s7 := HB7.out.size; have s8 := HB8.out.size; first | omega | (simp at s6 s7 s8 ⊢; omega)) HC8.out | exact callRel_mk HO8.out hHeld.bl (blk_after HB8.out) (by have s6 := HB6.out.size; have s7 := HB7.out.size; have s8 := HB8.out.size; first | omega | (simp at s6 s7 s8 ⊢; omega)) HC8.out | exact callRel_mk HO8.out hHeld.bl (blk_after2 HB6.out HB8.out) (by have s6 := HB6.out.size; have s7 := HB7.out.size; have s8 := HB8.out.size; first | omega | (simp at s6 s7 s8 ⊢; omega)) HC8.out | exact callRel_mk HO8.out hHeld.bl (blk_after2 HB7.out HB8.out) (by have s6 := HB6.out.size; have s7 := HB7.out.size; have s8 := HB8.out.size; first | omega | (simp at s6 s7 s8 ⊢; omega)) HC8.out | exact callRel_mk HO8.out hHeld.bl (blk_after2 HB6.out (G.bl_trans HB7.out HB8.out)) (by have s6 := HB6.out.size; have s7 := HB7.out.size; have s8 := HB8.out.size; first | omega | (simp at s6 s7 s8 ⊢; omega)) HC8.out | exact callRel_mk HO8.out hHeld.bl (blk_after3 HB6.out (G.bl_trans HB7.out HB8.out)) (by have s6 := HB6.out.size; have s7 := HB7.out.size; have s8 := HB8.out.size; first | omega | (simp at s6 s7 s8 ⊢; omega)) HC8.out | exact callRel_mk HO8.out hHeld.bl (blk_after3 HB7.out (G.bl_trans HB6.out HB8.out)) (by have s6 := HB6.out.size; have s7 := HB7.out.size; have s8 := HB8.out.size; first | omega | (simp at s6 s7 s8 ⊢; omega)) HC8.out
            refine AllReadyH.cons rfl (fun K hK => ?_) ?_
            · go_simp
              go_wp2_with fail
              refine hK.out _ _ ?_ (fun hHeld => ?_)
              · exact TwH.below (by assumption) (G.bl_alloc (Below.refl _ _) _)
              clear hK K
              try simp only [Act.put, List.setIfInBounds_toArray, List.set_cons_zero, List.set_cons_succ]
              refine wpAnyH_ready (rs := [4]) (by kernel_rfl) (by simp) ?_
              refine AllReadyH.cons rfl (fun K hK => ?_) AllReadyH.nil
              go_simp
              (refine (apply_any x6 t7 y7 e _ (HO6.out.below (by first | exact Below.refl _ _ | exact G.bl_alloc (Below.refl _ _) _ | exact HB7.out | exact G.bl_alloc HB7.out _ | exact G.bl_trans (G.bl_alloc (Below.refl _ _) _) HB7.out)) (may_sz HM7.out) (RdEv.below HO7.out (by first | exact Below.refl _ _ | exact G.bl_alloc (Below.refl _ _) _ | exact HB6.out | exact G.bl_alloc HB6.out _ | exact G.bl_trans (G.bl_alloc (Below.refl _ _) _) HB6.out)) HF.out HL.out).mono ?_; rintro e8 w8 hp8; obtain ⟨x8, t8, k8, rfl, ho8, hb8, hc8⟩ := hp8; have HB8 := Lib.hid hb8; have HO8 := Lib.hid ho8; have HC8 := Lib.hid hc8; clear ho8 hb8 hc8)
              go_wp2_with fail
              refine hK.out _ _ ?_ (fun hHeld => ?_)
              · exact TwH.below (by assumption) HB8.out
              clear hK K
              try simp only [Act.put, List.setIfInBounds_toArray, List.set_cons_zero, List.set_cons_succ]
              refine wpAnyH_take (i := 5) (oi := ⟨some 89, _, _, _, _, _⟩) (v := ?_) rfl (by kernel_rfl) (by kernel_rfl) (by kernel_rfl) (fun _ _ _ h => h) (Or.inl ⟨by rfl, ?_⟩) (by assumption) ?_
              rotate_left
              · (intro w hSw; (try dsimp only at hSw); go_split_ands; go_simp; try with_reducible rfl)
              try simp only [Act.put, List.setIfInBounds_toArray, List.set_cons_zero, List.set_cons_succ]
              refine wpAnyH_take (i := 6) (oi := ⟨some 95, _, _, _, _, _⟩) (v := ?_) rfl (by kernel_rfl) (by kernel_rfl) (by kernel_rfl) (fun _ _ _ h => h) (Or.inl ⟨by rfl, ?_⟩) (by assumption) ?_
              rotate_left
              · (intro w hSw; (try dsimp only at hSw); go_split_ands; go_simp; try with_reducible rfl)
              try simp only [Act.put, List.setIfInBounds_toArray, List.set_cons_zero, List.set_cons_succ]
              refine wpAnyH_take (i := 7) (oi := ⟨some 96, _, _, _, _, _⟩) (v := ?_) rfl (by kernel_rfl) (by kernel_rfl) (by kernel_rfl) (fun _ _ _ h => h) (Or.inl ⟨by rfl, ?_⟩) (by assumption) ?_
              rotate_left
              · (intro w hSw; (try dsimp only at hSw); go_split_ands; go_simp; try with_reducible rfl)
              try simp only [Act.put, List.setIfInBounds_toArray, List.set_cons_zero, List.set_cons_succ]
              refine wpAnyH_ready (rs := [9]) (by kernel_rfl) (by simp) ?_
              refine AllReadyH.cons rfl (fun K hK => ?_) AllReadyH.nil
              first | (refine wp_store_row 27 (.tmp 11) (.tmp 95) rfl _ (x8.arr t8) rfl rfl 27 #[.slice none 0 0, .slice none 0 0, .slice none 0 0, .int .i32 0, .int .i64 0, .int .i8 0, .int .i64 0] (heap_alloc_new _ _) (by kernel_rfl) rfl (arr_one _ _) ?_) | (refine wp_store_row 27 (.tmp 11) (.tmp 95) rfl _ (x8.arr t8) rfl rfl 27 #[.slice none 0 0, .slice none 0 0, .slice none 0 0, .int .i32 0, .int .i64 0, .int .i8 0, .int .i64 0] (blk_after HB8.out) (by kernel_rfl) rfl (arr_one _ _) ?_) | (refine wp_store_row 27 (.tmp 11) (.tmp 95) rfl _ (x8.arr t8) rfl rfl 27 #[.slice none 0 0, .slice none 0 0, .slice none 0 0, .int .i32 0, .int .i64 0, .int .i8 0, .int .i64 0] (blk_after2 HB6.out HB8.out) (by kernel_rfl) rfl (arr_one _ _) ?_) | (refine wp_store_row 27 (.tmp 11) (.tmp 95) rfl _ (x8.arr t8) rfl rfl 27 #[.slice none 0 0, .slice none 0 0, .slice none 0 0, .int .i32 0, .int .i64 0, .int .i8 0, .int .i64 0] (blk_after2 HB7.out HB8.out) (by kernel_rfl) rfl (arr_one _ _) ?_) | (refine wp_store_row 27 (.tmp 11) (.tmp 95) rfl _ (x8.arr t8) rfl rfl 27 #[.slice none 0 0, .slice none 0 0, .slice none 0 0, .int .i32 0, .int .i64 0, .int .i8 0, .int .i64 0] (blk_after2 HB6.out (G.bl_trans HB7.out HB8.out)) (by kernel_rfl) rfl (arr_one _ _) ?_) | (refine wp_store_row 27 (.tmp 11) (.tmp 95) rfl _ (x8.arr t8) rfl rfl 27 #[.slice none 0 0, .slice none 0 0, .slice none 0 0, .int .i32 0, .int .i64 0, .int .i8 0, .int .i64 0] (blk_after3 HB6.out (G.bl_trans HB7.out HB8.out)) (by kernel_rfl) rfl (arr_one _ _) ?_) | (refine wp_store_row 27 (.tmp 11) (.tmp 95) rfl _ (x8.arr t8) rfl rfl 27 #[.slice none 0 0, .slice none 0 0, .slice none 0 0, .int .i32 0, .int .i64 0, .int .i8 0, .int .i64 0] (blk_after3 HB7.out (G.bl_trans HB6.out HB8.out)) (by kernel_rfl) rfl (arr_one _ _) ?_)
              try simp only [Act.put, List.getElem_toArray, List.getElem_cons_succ, List.getElem_cons_zero]
              refine hK.out _ _ ?_ (fun hHeld => ?_)
              · exact TwH.row (by assumption) (by have s6 := HB6.out.size; have s7 := HB7.out.size; have s8 := HB8.out.size; first | omega | (simp at s6 s7 s8 ⊢; omega))
              clear hK K
              try simp only [Act.put, List.setIfInBounds_toArray, List.set_cons_zero, List.set_cons_succ]
              refine wpAnyH_take (i := 10) (oi := ⟨some 12, _, _, _, _, _⟩) (v := ?_) rfl (by kernel_rfl) (by kernel_rfl) (by kernel_rfl) (fun _ _ _ h => h) (Or.inl ⟨by rfl, ?_⟩) (by assumption) ?_
              rotate_left
              · (intro w hSw; (try dsimp only at hSw); go_split_ands; go_simp; try with_reducible rfl)
              try simp only [Act.put, List.setIfInBounds_toArray, List.set_cons_zero, List.set_cons_succ]
              refine wpAnyH_done (by kernel_rfl) ?_ _
              go_wp2_with fail
              go_meet
              case rel => first | exact callRel_mk (HO8.out.below (G.bl_alloc (Below.refl _ _) _)) hHeld.bl (G.Blk.new _ _ _) (by have s6 := HB6.out.size; have s7 := HB7.out.size; have s8 := HB8.out.size; first | omega | (simp at s6 s7 s8 ⊢; omega)) HC8.out | exact callRel_mk HO8.out hHeld.bl (blk_after HB8.out) (by have s6 := HB6.out.size; have s7 := HB7.out.size; have s8 := HB8.out.size; first | omega | (simp at s6 s7 s8 ⊢; omega)) HC8.out | exact callRel_mk HO8.out hHeld.bl (blk_after2 HB6.out HB8.out) (by have s6 := HB6.out.size; have s7 := HB7.out.size; have s8 := HB8.out.size; first | omega | (simp at s6 s7 s8 ⊢; omega)) HC8.out | exact callRel_mk HO8.out hHeld.bl (blk_after2 HB7.out HB8.out) (by have s6 := HB6.out.size; have s7 := HB7.out.size; have s8 := HB8.out.size; first | omega | (simp at s6 s7 s8 ⊢; omega)) HC8.out | exact callRel_mk HO8.out hHeld.bl (blk_after2 HB6.out (G.bl_trans HB7.out HB8.out)) (by have s6 := HB6.out.size; have s7 := HB7.out.size; have s8 := HB8.out.size; first | omega | (simp at s6 s7 s8 ⊢; omega)) HC8.out | exact callRel_mk HO8.out hHeld.bl (blk_after3 HB6.out (G.bl_trans HB7.out HB8.out)) (by have s6 := HB6.out.size; have s7 := HB7.out.size; have s8 := HB8.out.size; first | omega | (simp at s6 s7 s8 ⊢; omega)) HC8.out | exact callRel_mk HO8.out hHeld.bl (blk_after3 HB7.out (G.bl_trans HB6.out HB8.out)) (by have s6 := HB6.out.size; have s7 := HB7.out.size; have s8 := HB8.out.size; first | omega | (simp at s6 s7 s8 ⊢; omega)) HC8.out
            exact AllReadyH.nil
          refine AllReadyH.cons rfl (fun K hK => ?_) ?_
          · go_simp
            go_wp2_with fail
            refine hK.out _ _ ?_ (fun hHeld => ?_)
            · exact TwH.below (by assumption) (G.bl_alloc (Below.refl _ _) _)
            clear hK K
            try simp only [Act.put, List.setIfInBounds_toArray, List.set_cons_zero, List.set_cons_succ]
            refine wpAnyH_ready (rs := [3]) (by kernel_rfl) (by simp) ?_
            refine AllReadyH.cons rfl (fun K hK => ?_) AllReadyH.nil
            go_simp
            (refine (HCE.out _ hHeld.bl).mono ?_; rintro e7 w7 hp7; obtain ⟨y7, rfl, ho7, hb7⟩ := hp7; have HB7 := Lib.hid hb7; have HO7 := Lib.hid ho7.rd; clear ho7 hb7)
            go_wp2_with fail
            refine hK.out _ _ ?_ (fun hHeld => ?_)
            · exact TwH.below (by assumption) HB7.out
            clear hK K
            try simp only [Act.put, List.setIfInBounds_toArray, List.set_cons_zero, List.set_cons_succ]
            refine wpAnyH_ready (rs := [4]) (by kernel_rfl) (by simp) ?_
            refine AllReadyH.cons rfl (fun K hK => ?_) AllReadyH.nil
            go_simp
            (refine (apply_any x6 t7 y7 e _ (HO6.out.below (by first | exact Below.refl _ _ | exact G.bl_alloc (Below.refl _ _) _ | exact HB7.out | exact G.bl_alloc HB7.out _ | exact G.bl_trans (G.bl_alloc (Below.refl _ _) _) HB7.out)) (may_sz HM7.out) (RdEv.below HO7.out (by first | exact Below.refl _ _ | exact G.bl_alloc (Below.refl _ _) _ | exact HB6.out | exact G.bl_alloc HB6.out _ | exact G.bl_trans (G.bl_alloc (Below.refl _ _) _) HB6.out)) HF.out HL.out).mono ?_; rintro e8 w8 hp8; obtain ⟨x8, t8, k8, rfl, ho8, hb8, hc8⟩ := hp8; have HB8 := Lib.hid hb8; have HO8 := Lib.hid ho8; have HC8 := Lib.hid hc8; clear ho8 hb8 hc8)
            go_wp2_with fail
            refine hK.out _ _ ?_ (fun hHeld => ?_)
            · exact TwH.below (by assumption) HB8.out
            clear hK K
            try simp only [Act.put, List.setIfInBounds_toArray, List.set_cons_zero, List.set_cons_succ]
            refine wpAnyH_take (i := 5) (oi := ⟨some 89, _, _, _, _, _⟩) (v := ?_) rfl (by kernel_rfl) (by kernel_rfl) (by kernel_rfl) (fun _ _ _ h => h) (Or.inl ⟨by rfl, ?_⟩) (by assumption) ?_
            rotate_left
            · (intro w hSw; (try dsimp only at hSw); go_split_ands; go_simp; try with_reducible rfl)
            try simp only [Act.put, List.setIfInBounds_toArray, List.set_cons_zero, List.set_cons_succ]
            refine wpAnyH_take (i := 6) (oi := ⟨some 95, _, _, _, _, _⟩) (v := ?_) rfl (by kernel_rfl) (by kernel_rfl) (by kernel_rfl) (fun _ _ _ h => h) (Or.inl ⟨by rfl, ?_⟩) (by assumption) ?_
            rotate_left
            · (intro w hSw; (try dsimp only at hSw); go_split_ands; go_simp; try with_reducible rfl)
            try simp only [Act.put, List.setIfInBounds_toArray, List.set_cons_zero, List.set_cons_succ]
            refine wpAnyH_take (i := 7) (oi := ⟨some 96, _, _, _, _, _⟩) (v := ?_) rfl (by kernel_rfl) (by kernel_rfl) (by kernel_rfl) (fun _ _ _ h => h) (Or.inl ⟨by rfl, ?_⟩) (by assumption) ?_
            rotate_left
            · (intro w hSw; (try dsimp only at hSw); go_split_ands; go_simp; try with_reducible rfl)
            try simp only [Act.put, List.setIfInBounds_toArray, List.set_cons_zero, List.set_cons_succ]
            refine wpAnyH_ready (rs := [9]) (by kernel_rfl) (by simp) ?_
            refine AllReadyH.cons rfl (fun K hK => ?_) AllReadyH.nil
            first | (refine wp_store_row 27 (.tmp 11) (.tmp 95) rfl _ (x8.arr t8) rfl rfl 27 #[.slice none 0 0, .slice none 0 0, .slice none 0 0, .int .i32 0, .int .i64 0, .int .i8 0, .int .i64 0] (heap_alloc_new _ _) (by kernel_rfl) rfl (arr_one _ _) ?_) | (refine wp_store_row 27 (.tmp 11) (.tmp 95) rfl _ (x8.arr t8) rfl rfl 27 #[.slice none 0 0, .slice none 0 0, .slice none 0 0, .int .i32 0, .int .i64 0, .int .i8 0, .int .i64 0] (blk_after HB8.out) (by kernel_rfl) rfl (arr_one _ _) ?_) | (refine wp_store_row 27 (.tmp 11) (.tmp 95) rfl _ (x8.arr t8) rfl rfl 27 #[.slice none 0 0, .slice none 0 0, .slice none 0 0, .int .i32 0, .int .i64 0, .int .i8 0, .int .i64 0] (blk_after2 HB6.out HB8.out) (by kernel_rfl) rfl (arr_one _ _) ?_) | (refine wp_store_row 27 (.tmp 11) (.tmp 95) rfl _ (x8.arr t8) rfl rfl 27 #[.slice none 0 0, .slice none 0 0, .slice none 0 0, .int .i32 0, .int .i64 0, .int .i8 0, .int .i64 0] (blk_after2 HB7.out HB8.out) (by kernel_rfl) rfl (arr_one _ _) ?_) | (refine wp_store_row 27 (.tmp 11) (.tmp 95) rfl _ (x8.arr t8) rfl rfl 27 #[.slice none 0 0, .slice none 0 0, .slice none 0 0, .int .i32 0, .int .i64 0, .int .i8 0, .int .i64 0] (blk_after2 HB6.out (G.bl_trans HB7.out HB8.out)) (by kernel_rfl) rfl (arr_one _ _) ?_) | (refine wp_store_row 27 (.tmp 11) (.tmp 95) rfl _ (x8.arr t8) rfl rfl 27 #[.slice none 0 0, .slice none 0 0, .slice none 0 0, .int .i32 0, .int .i64 0, .int .i8 0, .int .i64 0] (blk_after3 HB6.out (G.bl_trans HB7.out HB8.out)) (by kernel_rfl) rfl (arr_one _ _) ?_) | (refine wp_store_row 27 (.tmp 11) (.tmp 95) rfl _ (x8.arr t8) rfl rfl 27 #[.slice none 0 0, .slice none 0 0, .slice none 0 0, .int .i32 0, .int .i64 0, .int .i8 0, .int .i64 0] (blk_after3 HB7.out (G.bl_trans HB6.out HB8.out)) (by kernel_rfl) rfl (arr_one _ _) ?_)
            try simp only [Act.put, List.getElem_toArray, List.getElem_cons_succ, List.getElem_cons_zero]
            refine hK.out _ _ ?_ (fun hHeld => ?_)
            · exact TwH.row (by assumption) (by have s6 := HB6.out.size; have s7 := HB7.out.size; have s8 := HB8.out.size; first | omega | (simp at s6 s7 s8 ⊢; omega))
            clear hK K
            try simp only [Act.put, List.setIfInBounds_toArray, List.set_cons_zero, List.set_cons_succ]
            refine wpAnyH_take (i := 10) (oi := ⟨some 12, _, _, _, _, _⟩) (v := ?_) rfl (by kernel_rfl) (by kernel_rfl) (by kernel_rfl) (fun _ _ _ h => h) (Or.inl ⟨by rfl, ?_⟩) (by assumption) ?_
            rotate_left
            · (intro w hSw; (try dsimp only at hSw); go_split_ands; go_simp; try with_reducible rfl)
            try simp only [Act.put, List.setIfInBounds_toArray, List.set_cons_zero, List.set_cons_succ]
            refine wpAnyH_done (by kernel_rfl) ?_ _
            go_wp2_with fail
            go_meet
            case rel => first | exact callRel_mk (HO8.out.below (G.bl_alloc (Below.refl _ _) _)) hHeld.bl (G.Blk.new _ _ _) (by have s6 := HB6.out.size; have s7 := HB7.out.size; have s8 := HB8.out.size; first | omega | (simp at s6 s7 s8 ⊢; omega)) HC8.out | exact callRel_mk HO8.out hHeld.bl (blk_after HB8.out) (by have s6 := HB6.out.size; have s7 := HB7.out.size; have s8 := HB8.out.size; first | omega | (simp at s6 s7 s8 ⊢; omega)) HC8.out | exact callRel_mk HO8.out hHeld.bl (blk_after2 HB6.out HB8.out) (by have s6 := HB6.out.size; have s7 := HB7.out.size; have s8 := HB8.out.size; first | omega | (simp at s6 s7 s8 ⊢; omega)) HC8.out | exact callRel_mk HO8.out hHeld.bl (blk_after2 HB7.out HB8.out) (by have s6 := HB6.out.size; have s7 := HB7.out.size; have s8 := HB8.out.size; first | omega | (simp at s6 s7 s8 ⊢; omega)) HC8.out | exact callRel_mk HO8.out hHeld.bl (blk_after2 HB6.out (G.bl_trans HB7.out HB8.out)) (by have s6 := HB6.out.size; have s7 := HB7.out.size; have s8 := HB8.out.size; first | omega | (simp at s6 s7 s8 ⊢; omega)) HC8.out | exact callRel_mk HO8.out hHeld.bl (blk_after3 HB6.out (G.bl_trans HB7.out HB8.out)) (by have s6 := HB6.out.size; have s7 := HB7.out.size; have s8 := HB8.out.size; first | omega | (simp at s6 s7 s8 ⊢; omega)) HC8.out | exact callRel_mk HO8.out hHeld.bl (blk_after3 HB7.out (G.bl_trans HB6.out HB8.out)) (by have s6 := HB6.out.size; have s7 := HB7.out.size; have s8 := HB8.out.size; first | omega | (simp at s6 s7 s8 ⊢; omega)) HC8.out
          exact AllReadyH.nil
        refine AllReadyH.cons rfl (fun K hK => ?_) ?_
        · go_simp
          go_wp2_with fail
          refine hK.out _ _ ?_ (fun hHeld => ?_)
          · exact TwH.below (by assumption) (G.bl_alloc (Below.refl _ _) _)
          clear hK K
          try simp only [Act.put, List.setIfInBounds_toArray, List.set_cons_zero, List.set_cons_succ]
          refine wpAnyH_ready (rs := [1]) (by kernel_rfl) (by simp) ?_
          refine AllReadyH.cons rfl (fun K hK => ?_) AllReadyH.nil
          go_simp
          (refine (HCP.out _ hHeld.bl).mono ?_; rintro e6 w6 hp6; obtain ⟨x6, rfl, ho6, hb6⟩ := hp6; have HB6 := Lib.hid hb6; have HO6 := Lib.hid ho6.rd; clear ho6 hb6)
          go_wp2_with fail
          refine hK.out _ _ ?_ (fun hHeld => ?_)
          · exact TwH.below (by assumption) HB6.out
          clear hK K
          try simp only [Act.put, List.setIfInBounds_toArray, List.set_cons_zero, List.set_cons_succ]
          refine wpAnyH_ready (rs := [3]) (by kernel_rfl) (by simp) ?_
          refine AllReadyH.cons rfl (fun K hK => ?_) AllReadyH.nil
          go_simp
          (refine (HCE.out _ hHeld.bl).mono ?_; rintro e7 w7 hp7; obtain ⟨y7, rfl, ho7, hb7⟩ := hp7; have HB7 := Lib.hid hb7; have HO7 := Lib.hid ho7.rd; clear ho7 hb7)
          go_wp2_with fail
          refine hK.out _ _ ?_ (fun hHeld => ?_)
          · exact TwH.below (by assumption) HB7.out
          clear hK K
          try simp only [Act.put, List.setIfInBounds_toArray, List.set_cons_zero, List.set_cons_succ]
          refine wpAnyH_ready (rs := [4]) (by kernel_rfl) (by simp) ?_
          refine AllReadyH.cons rfl (fun K hK => ?_) AllReadyH.nil
          go_simp
          (refine (apply_any x6 t7 y7 e _ (HO6.out.below (by first | exact Below.refl _ _ | exact G.bl_alloc (Below.refl _ _) _ | exact HB7.out | exact G.bl_alloc HB7.out _ | exact G.bl_trans (G.bl_alloc (Below.refl _ _) _) HB7.out)) (may_sz HM7.out) (RdEv.below HO7.out (by first | exact Below.refl _ _ | exact G.bl_alloc (Below.refl _ _) _ | exact HB6.out | exact G.bl_alloc HB6.out _ | exact G.bl_trans (G.bl_alloc (Below.refl _ _) _) HB6.out)) HF.out HL.out).mono ?_; rintro e8 w8 hp8; obtain ⟨x8, t8, k8, rfl, ho8, hb8, hc8⟩ := hp8; have HB8 := Lib.hid hb8; have HO8 := Lib.hid ho8; have HC8 := Lib.hid hc8; clear ho8 hb8 hc8)
          go_wp2_with fail
          refine hK.out _ _ ?_ (fun hHeld => ?_)
          · exact TwH.below (by assumption) HB8.out
          clear hK K
          try simp only [Act.put, List.setIfInBounds_toArray, List.set_cons_zero, List.set_cons_succ]
          refine wpAnyH_take (i := 5) (oi := ⟨some 89, _, _, _, _, _⟩) (v := ?_) rfl (by kernel_rfl) (by kernel_rfl) (by kernel_rfl) (fun _ _ _ h => h) (Or.inl ⟨by rfl, ?_⟩) (by assumption) ?_
          rotate_left
          · (intro w hSw; (try dsimp only at hSw); go_split_ands; go_simp; try with_reducible rfl)
          try simp only [Act.put, List.setIfInBounds_toArray, List.set_cons_zero, List.set_cons_succ]
          refine wpAnyH_take (i := 6) (oi := ⟨some 95, _, _, _, _, _⟩) (v := ?_) rfl (by kernel_rfl) (by kernel_rfl) (by kernel_rfl) (fun _ _ _ h => h) (Or.inl ⟨by rfl, ?_⟩) (by assumption) ?_
          rotate_left
          · (intro w hSw; (try dsimp only at hSw); go_split_ands; go_simp; try with_reducible rfl)
          try simp only [Act.put, List.setIfInBounds_toArray, List.set_cons_zero, List.set_cons_succ]
          refine wpAnyH_take (i := 7) (oi := ⟨some 96, _, _, _, _, _⟩) (v := ?_) rfl (by kernel_rfl) (by kernel_rfl) (by kernel_rfl) (fun _ _ _ h => h) (Or.inl ⟨by rfl, ?_⟩) (by assumption) ?_
          rotate_left
          · (intro w hSw; (try dsimp only at hSw); go_split_ands; go_simp; try with_reducible rfl)
          try simp only [Act.put, List.setIfInBounds_toArray, List.set_cons_zero, List.set_cons_succ]
          refine wpAnyH_ready (rs := [9]) (by kernel_rfl) (by simp) ?_
          refine AllReadyH.cons rfl (fun K hK => ?_) AllReadyH.nil
          first | (refine wp_store_row 27 (.tmp 11) (.tmp 95) rfl _ (x8.arr t8) rfl rfl 27 #[.slice none 0 0, .slice none 0 0, .slice none 0 0, .int .i32 0, .int .i64 0, .int .i8 0, .int .i64 0] (heap_alloc_new _ _) (by kernel_rfl) rfl (arr_one _ _) ?_) | (refine wp_store_row 27 (.tmp 11) (.tmp 95) rfl _ (x8.arr t8) rfl rfl 27 #[.slice none 0 0, .slice none 0 0, .slice none 0 0, .int .i32 0, .int .i64 0, .int .i8 0, .int .i64 0] (blk_after HB8.out) (by kernel_rfl) rfl (arr_one _ _) ?_) | (refine wp_store_row 27 (.tmp 11) (.tmp 95) rfl _ (x8.arr t8) rfl rfl 27 #[.slice none 0 0, .slice none 0 0, .slice none 0 0, .int .i32 0, .int .i64 0, .int .i8 0, .int .i64 0] (blk_after2 HB6.out HB8.out) (by kernel_rfl) rfl (arr_one _ _) ?_) | (refine wp_store_row 27 (.tmp 11) (.tmp 95) rfl _ (x8.arr t8) rfl rfl 27 #[.slice none 0 0, .slice none 0 0, .slice none 0 0, .int .i32 0, .int .i64 0, .int .i8 0, .int .i64 0] (blk_after2 HB7.out HB8.out) (by kernel_rfl) rfl (arr_one _ _) ?_) | (refine wp_store_row 27 (.tmp 11) (.tmp 95) rfl _ (x8.arr t8) rfl rfl 27 #[.slice none 0 0, .slice none 0 0, .slice none 0 0, .int .i32 0, .int .i64 0, .int .i8 0, .int .i64 0] (blk_after2 HB6.out (G.bl_trans HB7.out HB8.out)) (by kernel_rfl) rfl (arr_one _ _) ?_) | (refine wp_store_row 27 (.tmp 11) (.tmp 95) rfl _ (x8.arr t8) rfl rfl 27 #[.slice none 0 0, .slice none 0 0, .slice none 0 0, .int .i32 0, .int .i64 0, .int .i8 0, .int .i64 0] (blk_after3 HB6.out (G.bl_trans HB7.out HB8.out)) (by kernel_rfl) rfl (arr_one _ _) ?_) | (refine wp_store_row 27 (.tmp 11) (.tmp 95) rfl _ (x8.arr t8) rfl rfl 27 #[.slice none 0 0, .slice none 0 0, .slice none 0 0, .int .i32 0, .int .i64 0, .int .i8 0, .int .i64 0] (blk_after3 HB7.out (G.bl_trans HB6.out HB8.out)) (by kernel_rfl) rfl (arr_one _ _) ?_)
          try simp only [Act.put, List.getElem_toArray, List.getElem_cons_succ, List.getElem_cons_zero]
          refine hK.out _ _ ?_ (fun hHeld => ?_)
          · exact TwH.row (by assumption) (by have s6 := HB6.out.size; have s7 := HB7.out.size; have s8 := HB8.out.size; first | omega | (simp at s6 s7 s8 ⊢; omega))
          clear hK K
          try simp only [Act.put, List.setIfInBounds_toArray, List.set_cons_zero, List.set_cons_succ]
          refine wpAnyH_take (i := 10) (oi := ⟨some 12, _, _, _, _, _⟩) (v := ?_) rfl (by kernel_rfl) (by kernel_rfl) (by kernel_rfl) (fun _ _ _ h => h) (Or.inl ⟨by rfl, ?_⟩) (by assumption) ?_
          rotate_left
          · (intro w hSw; (try dsimp only at hSw); go_split_ands; go_simp; try with_reducible rfl)
          try simp only [Act.put, List.setIfInBounds_toArray, List.set_cons_zero, List.set_cons_succ]
          refine wpAnyH_done (by kernel_rfl) ?_ _
          go_wp2_with fail
          go_meet
          case rel => first | exact callRel_mk (HO8.out.below (G.bl_alloc (Below.refl _ _) _)) hHeld.bl (G.Blk.new _ _ _) (by have s6 := HB6.out.size; have s7 := HB7.out.size; have s8 := HB8.out.size; first | omega | (simp at s6 s7 s8 ⊢; omega)) HC8.out | exact callRel_mk HO8.out hHeld.bl (blk_after HB8.out) (by have s6 := HB6.out.size; have s7 := HB7.out.size; have s8 := HB8.out.size; first | omega | (simp at s6 s7 s8 ⊢; omega)) HC8.out | exact callRel_mk HO8.out hHeld.bl (blk_after2 HB6.out HB8.out) (by have s6 := HB6.out.size; have s7 := HB7.out.size; have s8 := HB8.out.size; first | omega | (simp at s6 s7 s8 ⊢; omega)) HC8.out | exact callRel_mk HO8.out hHeld.bl (blk_after2 HB7.out HB8.out) (by have s6 := HB6.out.size; have s7 := HB7.out.size; have s8 := HB8.out.size; first | omega | (simp at s6 s7 s8 ⊢; omega)) HC8.out | exact callRel_mk HO8.out hHeld.bl (blk_after2 HB6.out (G.bl_trans HB7.out HB8.out)) (by have s6 := HB6.out.size; have s7 := HB7.out.size; have s8 := HB8.out.size; first | omega | (simp at s6 s7 s8 ⊢; omega)) HC8.out | exact callRel_mk HO8.out hHeld.bl (blk_after3 HB6.out (G.bl_trans HB7.out HB8.out)) (by have s6 := HB6.out.size; have s7 := HB7.out.size; have s8 := HB8.out.size; first | omega | (simp at s6 s7 s8 ⊢; omega)) HC8.out | exact callRel_mk HO8.out hHeld.bl (blk_after3 HB7.out (G.bl_trans HB6.out HB8.out)) (by have s6 := HB6.out.size; have s7 := HB7.out.size; have s8 := HB8.out.size; first | omega | (simp at s6 s7 s8 ⊢; omega)) HC8.out
        exact AllReadyH.nil
      obtain ⟨g9, x9, t9, k9, rfl, rfl, hB9, hR9, hb9, hc9⟩ := hcut
      obtain ⟨rfl, rfl⟩ : k9 = 0 ∧ t9 = s := by
        rcases hc9 with ⟨a, _, b⟩ | ⟨_, _, b, _⟩ | ⟨_, b, _⟩
        · exact ⟨a, Option.some.inj (b.symm.trans HU7.out)⟩
        · rw [HU7.out] at b
          cases b
        · exact absurd HM7.out b
      obtain ⟨w5, hw5⟩ : ∃ w5 : World, w5 = wc := ⟨_, rfl⟩
      subst hw5
      have HB9 := Lib.hid hB9
      have HBL9 := Lib.hid (G.bl_trans HBL6.out hb9)
      have HBC := Lib.hid (Below.refl w5.heap.size w5)
      have HB7 := Lib.hid (HB7.out.below hb9 HB7.out.lt)
      have HXC := Lib.hid (HXC.out.below hb9 HXC.out.lt)
      have HR7 := Lib.hid (HR7.out.below hb9)
      have HXS := Lib.hid (HXS.out.below hb9)
      have HR9 := Lib.hid hR9
      have HLI := Lib.hid (fun W (hW : Below w5.heap.size w5 W) => lives_any W)
      have HE1 := Lib.hid (fun W (hW : Below w5.heap.size w5 W) => (show Calls Tryz.prog 17 #[.agg (x9.arr t9), .agg cs] W (BoolPost true W) by
        have h9 := eqState_any x9 x t9 t9 W (HR9.out.below hW) (HXS.out.below hW) HSZ.out HSZ.out
        rw [decide_eq_true rfl, HV1.out] at h9
        exact h9))
      have HE2 := Lib.hid (fun W (hW : Below w5.heap.size w5 W) => (show Calls Tryz.prog 29 #[.agg (x7.arr t7)] W (BoolPost true W) by
        have h9 := lawMay_any x7 t7 W (HR7.out.below hW) (may_sz HM7.out)
        rw [may_yes HM7.out] at h9
        exact h9))
      have HE3 := Lib.hid (fun W (hW : Below w5.heap.size w5 W) => (show Calls Tryz.prog 30 #[.agg cs, .agg (x7.arr t7)] W (BoolPost true W) by
        have h9 := sameCards_any x x7 t9 t7 W (HXS.out.below hW) (HR7.out.below hW) HM7.out HK7.out
        rw [HV1.out] at h9
        exact h9))
      clear hB9 hR9 hb9 hc9
      go_wp2_with (first | (refine wpList_load_row_g (by rfl) 27 _ rfl g rfl _ cs (0, 0) _ HXC.out HFS.out rfl (by rw [HS.out]; exact sizeSt) ?_) | (refine wpList_load_row_g (by rfl) 27 _ rfl g9 rfl _ (x9.arr t9) (0, 0) _ HB9.out HFS.out rfl sizeSt ?_))
      refine (HE1.out _ HBC.out).mono ?_
      rintro e20 w20 ⟨rfl, hb20⟩
      have HN20 := Lib.hid hb20
      clear hb20
      have HBC := Lib.hid (G.bl_trans HBC.out HN20.out)
      have HXC := Lib.hid (HXC.out.below HN20.out HXC.out.lt)
      have HB7 := Lib.hid (HB7.out.below HN20.out HB7.out.lt)
      go_wp2_with (first | (refine wpList_load_row_g (by rfl) 27 _ rfl g7 rfl _ (x7.arr t7) (0, 0) _ HB7.out HFS.out rfl sizeSt ?_))
      refine (HE2.out _ HBC.out).mono ?_
      rintro e21 w21 ⟨rfl, hb21⟩
      have HN21 := Lib.hid hb21
      clear hb21
      have HBC := Lib.hid (G.bl_trans HBC.out HN21.out)
      have HXC := Lib.hid (HXC.out.below HN21.out HXC.out.lt)
      have HB7 := Lib.hid (HB7.out.below HN21.out HB7.out.lt)
      go_wp2_with (first | (refine wpList_load_row_g (by rfl) 27 _ rfl g rfl _ cs (0, 0) _ HXC.out HFS.out rfl (by rw [HS.out]; exact sizeSt) ?_) | (refine wpList_load_row_g (by rfl) 27 _ rfl g7 rfl _ (x7.arr t7) (0, 0) _ HB7.out HFS.out rfl sizeSt ?_))
      refine (HE3.out _ HBC.out).mono ?_
      rintro e22 w22 ⟨rfl, hb22⟩
      have HN22 := Lib.hid hb22
      clear hb22
      have HBC := Lib.hid (G.bl_trans HBC.out HN22.out)
      go_wp2_with (first | fail)
      refine (HLI.out _ HBC.out).mono ?_
      rintro e23 w23 ⟨rfl, hb23⟩
      have HN23 := Lib.hid hb23
      clear hb23
      have HBC := Lib.hid (G.bl_trans HBC.out HN23.out)
      go_wp2_with fail
      go_ret
      exact ⟨rfl, G.bl_trans HBL9.out HBC.out⟩
    · subst hk7 ht7
      have HBC := Lib.hid (Below.refl w6.heap.size w6)
      have HE1 := Lib.hid (fun W (hW : Below w6.heap.size w6 W) => (show Calls Tryz.prog 17 #[.agg (x7.arr zeroSt), .agg #[.slice none 0 0, .slice none 0 0, .slice none 0 0, .int .i32 0, .int .i64 0, .int .i8 0, .int .i64 0]] W (BoolPost true W) by
        have h9 := eqState_any x7 zeroSV zeroSt zeroSt W (HR7.out.below hW) (zero_rd W) zero_sz zero_sz
        rw [decide_eq_true rfl] at h9
        exact h9))
      go_wp2_with (first | (refine wpList_load_row_g (by rfl) 27 _ rfl g7 rfl _ (x7.arr zeroSt) (0, 0) _ HB7.out HFS.out rfl sizeSt ?_))
      refine (HE1.out _ HBC.out).mono ?_
      rintro e20 w20 ⟨rfl, hb20⟩
      have HN20 := Lib.hid hb20
      clear hb20
      have HBC := Lib.hid (G.bl_trans HBC.out HN20.out)
      go_wp2_with (first | fail)
      refine (HLI.out _ HBC.out).mono ?_
      rintro e21 w21 ⟨rfl, hb21⟩
      have HN21 := Lib.hid hb21
      clear hb21
      have HBC := Lib.hid (G.bl_trans HBC.out HN21.out)
      go_wp2_with fail
      go_ret
      exact ⟨rfl, G.bl_trans HBL6.out HBC.out⟩
    · exact absurd HM.out hno
  · have HM := Lib.hid hm
    rw [may_no hm] at HMY
    have hk5 : k5 = 10 := by
      rcases HC5.out with h | h | h
      · exact absurd h.2.1 hm
      · exact absurd h.2.1 hm
      · exact h.1
    have hk7 : k7 = 10 := by
      rcases HC7.out with h | h | h
      · exact absurd h.2.1 hm
      · exact absurd h.2.1 hm
      · exact h.1
    subst hk5 hk7
    clear hm HC5 HC7
    go_wp2_with (first | (refine wpList_load_row_g (by rfl) 27 _ rfl g rfl _ cs (0, 0) _ HXC.out HFS.out rfl (by rw [HS.out]; exact sizeSt) ?_))
    refine (HMY.out _ HBC.out).mono ?_
    rintro e10 w10 ⟨rfl, hb10⟩
    have HN10 := Lib.hid hb10
    clear hb10
    have HBC := Lib.hid (G.bl_trans HBC.out HN10.out)
    have HXC := Lib.hid (HXC.out.below HN10.out HXC.out.lt)
    go_wp2_with (first | fail)
    refine (HLI.out _ HBC.out).mono ?_
    rintro e11 w11 ⟨rfl, hb11⟩
    have HN11 := Lib.hid hb11
    clear hb11
    have HBC := Lib.hid (G.bl_trans HBC.out HN11.out)
    go_wp2_with fail
    go_ret
    exact ⟨rfl, G.bl_trans HBL3.out HBC.out⟩
end Go.Proofs.YtofgmijmhpmabaaGreatDoor.D

/- The contract of (kind).plain: are the fields that a kind does not keep nothing? Printed by gen_plain2.py. -/
import Derived.Test.YtofgmijmhpmabaaGreatDoorDBare
import Derived.Test.YtofgmijmhpmabaaGreatDoorDOf
import Derived.Test.YtofgmijmhpmabaaGreatDoorDEqS
import Derived.Deep.RegionHeld3
namespace Go.Proofs.YtofgmijmhpmabaaGreatDoor.D
open Go Go.RowKit
set_option linter.unusedVariables false
set_option linter.unusedSimpArgs false
def bareB (e f : Ev) : Bool := (e.kind == f.kind && (e.field == f.field && (e.card == f.card && (e.player == f.player && (e.other == f.other && (e.src == f.src && (e.srcAt == f.srcAt && (e.dst == f.dst && (e.dstAt == f.dstAt && (e.was == f.was && (e.now == f.now && true)))))))))))
theorem bareB_iff {e f : Ev} : bareB e f = true ↔ bareA e = bareA f := by
  simp [bareB, bareA, and_assoc]
theorem bare_eq (e f : Ev) (w : World) {o : Oper} {fn : Operand → Value} (x y : Operand) (ho : o.op = .binOp .eql 222 x y 222) (hx : fn x = .agg (bareA e)) (hy : fn y = .agg (bareA f)) : (execOp fn o).run Tryz.prog w = .ok (.value (.bool (bareB e f))) w :=
  G.exec_eql_struct 222 x y ho _ _ hx hy _ (by kernel_rfl) (by kernel_rfl) (by kernel_rfl)
    (G.eqAt_step 0 25 (by kernel_rfl) Tryz.underlying25 (by kernel_rfl) rfl rfl (G.eqAt_step 1 25 (by kernel_rfl) Tryz.underlying25 (by kernel_rfl) rfl rfl (G.eqAt_step 2 3 (by kernel_rfl) Tryz.underlying3 (by kernel_rfl) rfl rfl (G.eqAt_step 3 3 (by kernel_rfl) Tryz.underlying3 (by kernel_rfl) rfl rfl (G.eqAt_step 4 3 (by kernel_rfl) Tryz.underlying3 (by kernel_rfl) rfl rfl (G.eqAt_step 5 3 (by kernel_rfl) Tryz.underlying3 (by kernel_rfl) rfl rfl (G.eqAt_step 6 3 (by kernel_rfl) Tryz.underlying3 (by kernel_rfl) rfl rfl (G.eqAt_step 7 3 (by kernel_rfl) Tryz.underlying3 (by kernel_rfl) rfl rfl (G.eqAt_step 8 3 (by kernel_rfl) Tryz.underlying3 (by kernel_rfl) rfl rfl (G.eqAt_step 9 21 (by kernel_rfl) Tryz.underlying21 (by kernel_rfl) rfl rfl (G.eqAt_step 10 21 (by kernel_rfl) Tryz.underlying21 (by kernel_rfl) rfl rfl (G.eqAt_end (of_decide_eq_true (by kernel_rfl))))))))))))))
def EvHeld (g1 g2 : Nat) (c1 c2 : Array Value) (w : World) : Prop := (loadVar 30 ⟨g1, 0, none⟩).run Tryz.prog w = .ok (.agg c1) w ∧ (loadVar 30 ⟨g2, 0, none⟩).run Tryz.prog w = .ok (.agg c2) w ∧ w.heap[g1]? = some (.cells c1 30 (0, 0)) ∧ w.heap[g2]? = some (.cells c2 30 (0, 0))
theorem EvHeld.mk {g1 g2 : Nat} {c1 c2 : Array Value} {w : World} (h1 : w.heap[g1]? = some (.cells c1 30 (0, 0))) (h2 : w.heap[g2]? = some (.cells c2 30 (0, 0))) (s1 : c1.size = 12) (s2 : c2.size = 12) : EvHeld g1 g2 c1 c2 w := ⟨run_ev h1 s1, run_ev h2 s2, h1, h2⟩
theorem EvHeld.below {g1 g2 : Nat} {c1 c2 : Array Value} {w w' : World} (h : EvHeld g1 g2 c1 c2 w) (hb : Below w.heap.size w w') (s1 : c1.size = 12) (s2 : c2.size = 12) : EvHeld g1 g2 c1 c2 w' :=
  EvHeld.mk ((hb.block _ (Array.getElem?_eq_some_iff.1 h.2.2.1).1).trans h.2.2.1) ((hb.block _ (Array.getElem?_eq_some_iff.1 h.2.2.2).1).trans h.2.2.2) s1 s2
theorem exec_load_held {P : Program} {o : Oper} {f : Operand → Value} {w : World} (ty : TypeId) (x : Operand) (ho : o.op = .load ty x) (g : Nat) (hx : f x = .pointer (some ⟨g, 0, none⟩)) (cs : Array Value) (h : (loadVar ty ⟨g, 0, none⟩).run P w = .ok (.agg cs) w) : (execOp f o).run P w = .ok (.value (.agg cs)) w := by
  unfold execOp
  simp only [ho, hx, Instr.loadAt, Instr.sureAddr, Sem.run_bind, Sem.run_pure, Result.andThen_ok, h]
theorem undEv : ∃ fs, Tryz.prog.underlying 30 = some (.struct fs) := by
  have hu : (Tryz.prog.underlying 30).map (fun d => match d with | .struct _ => true | _ => false) = some true := by kernel_rfl
  cases hx : Tryz.prog.underlying 30 with
  | none => rw [hx] at hu; simp at hu
  | some d =>
    rw [hx] at hu
    cases d <;> simp at hu
    exact ⟨_, rfl⟩
theorem sizeEv : (Tryz.prog.info? 30).map (·.size) = some 12 := by kernel_rfl
set_option maxRecDepth 100000 in
set_option maxHeartbeats 4000000 in
theorem plain_gen (n0 : FuncId) (eg : ∀ args w, (callFunc n0 args).run Tryz.prog w = .ok (.enter n0 args) w) (F1 F2 F3 : Value) (w : World) (y y2 : EV) (e e2 : Ev) (hl : e.order.length ≤ 33554432) (hl2 : e2.order.length ≤ 33554432)
    (hk : ∀ W, Calls Tryz.prog n0 #[y.val e] W fun e' w' => e' = .returned (y2.val e2) ∧ Below W.heap.size W w') :
    Calls Tryz.prog 138 #[.agg #[.func (.func n0) #[] #[], F1, F2, F3], y.val e] w (BoolPost (decide (e2.order.length = e.order.length) && bareB e2 e) w) := by
  have HB1 := Lib.hid (fun W => bare_any W y2 e2)
  have HB2 := Lib.hid (fun W => bare_any W y e)
  have HK := Lib.hid hk
  obtain ⟨c1, hc1⟩ : ∃ c, c = y.arr e := ⟨_, rfl⟩
  obtain ⟨c2, hc2⟩ : ∃ c, c = y2.arr e2 := ⟨_, rfl⟩
  have hs1 : c1.size = 12 := by rw [hc1]; rfl
  have hs2 : c2.size = 12 := by rw [hc2]; rfl
  have HA2 := Lib.hid (show c2.all (·.oneCell') = true by rw [hc2]; simp [EV.arr, Value.oneCell'])
  have HO1 := Lib.hid (show c1[11]? = some (.slice y.oa e.order.length y.oc) by rw [hc1]; rfl)
  have HO2 := Lib.hid (show c2[11]? = some (.slice y2.oa e2.order.length y2.oc) by rw [hc2]; rfl)
  unfold EV.val at HB1 HB2 HK ⊢
  rw [← hc1] at HB2 HK ⊢
  rw [← hc2] at HB1 HK
  obtain ⟨m, hm⟩ : ∃ m, m = e.order.length := ⟨_, rfl⟩
  obtain ⟨m2, hm2⟩ : ∃ m, m = e2.order.length := ⟨_, rfl⟩
  obtain ⟨oa, hoa⟩ : ∃ q, q = y.oa := ⟨_, rfl⟩
  obtain ⟨oc, hoc⟩ : ∃ q, q = y.oc := ⟨_, rfl⟩
  obtain ⟨oa2, hoa2⟩ : ∃ q, q = y2.oa := ⟨_, rfl⟩
  obtain ⟨oc2, hoc2⟩ : ∃ q, q = y2.oc := ⟨_, rfl⟩
  rw [← hm] at hl HO1 ⊢
  rw [← hm2] at hl2 HO2 ⊢
  rw [← hoa, ← hoc] at HO1
  rw [← hoa2, ← hoc2] at HO2
  have HS1 := Lib.hid hs1
  have HS2 := Lib.hid hs2
  have HC1 := Lib.hid hc1
  have HC2 := Lib.hid hc2
  clear hc1 hc2 hm hm2 hoa hoc hoa2 hoc2 hk hs1 hs2
  go_enter Tryz.func138, Tryz.ntmps138
  go_upto_region 1 with (fail)
  obtain ⟨fsE, hfsE⟩ := undEv
  have HFS := Lib.hid hfsE
  have HB0 := Lib.hid (G.bl_alloc (G.bl_alloc (Below.refl w.heap.size w) (.cells #[Value.func (Fn.func n0) #[] #[], F1, F2, F3] 114)) (.cells c1 30))
  have HK0 := Lib.hid (show G.Blk _ _ _ _ from heap_alloc2_old w (.cells #[Value.func (Fn.func n0) #[] #[], F1, F2, F3] 114) (.cells c1 30))
  have HE0 := Lib.hid (show G.Blk _ _ _ _ from heap_alloc2_new w (.cells #[Value.func (Fn.func n0) #[] #[], F1, F2, F3] 114) (.cells c1 30))
  obtain ⟨w0, hw0⟩ : ∃ w0, w0 = (w.alloc (.cells #[Value.func (Fn.func n0) #[] #[], F1, F2, F3] 114)).alloc (.cells c1 30) := ⟨_, rfl⟩
  rw [← hw0] at HB0 HK0 HE0 ⊢
  clear hw0 hfsE
  obtain ⟨g, hg⟩ : ∃ g, g = w.heap.size := ⟨_, rfl⟩
  rw [← hg] at HB0 HK0 HE0 ⊢
  have HG := Lib.hid hg
  clear hg
  have hc0 := HK0.out.cell 0
  have hl0 := HE0.out.lt
  go_upto_region 2 with (first | (refine wpList_load_row rfl 30 _ rfl (g + 1) rfl _ c1 (0, 0) _ HE0.out HFS.out rfl (by rw [HS1.out]; exact sizeEv) ?_) | ((with_reducible refine (HK.out _).mono ?_); rintro e1 w1 ⟨rfl, hb1⟩; have HBW1 := Lib.hid hb1; clear hb1) | (refine wpList_store_row rfl 30 _ _ rfl _ c2 rfl rfl 30 _ (heap_alloc_new _ _) (by rw [HS2.out]; exact sizeEv) (by rw [HS2.out]; rfl) HA2.out ?_))
  generalize hw2 : World.setRow _ _ _ = w2
  have hl1 : g + 1 < w1.heap.size := by have := HBW1.out.size; omega
  have hBL2 := Lib.hid (show Below g w w2 by rw [← hw2]; exact below_setRow ((HB0.out.trans (HBW1.out.mono (by omega))).alloc (by omega) _) (by omega) _)
  have HX2 := Lib.hid (show G.Blk w2 w1.heap.size 30 c2 by rw [← hw2]; exact setRow_heap _ _ _ _ _ _ (heap_alloc_new _ _))
  have HE2 := Lib.hid (show G.Blk w2 (g + 1) 30 c1 from by unfold G.Blk; rw [← hw2, setRow_other _ _ _ _ (by omega), heap_alloc_old _ _ (by omega), HBW1.out.block _ (by omega)]; exact HE0.out)
  clear hw2
  obtain ⟨g5, hg5⟩ : ∃ g5, g5 = w1.heap.size := ⟨_, rfl⟩
  rw [← hg5] at hl1 HX2 ⊢
  clear hg5 hc0 hl0
  have hx11 : w2.cell? ⟨g5, 11, none⟩ = some (.slice oa2 m2 oc2) := by rw [HX2.out.cell]; exact HO2.out
  have he11 : w2.cell? ⟨g + 1, 11, none⟩ = some (.slice oa m oc) := by rw [HE2.out.cell]; exact HO1.out
  have hlx := HX2.out.lt
  have hle := HE2.out.lt
  by_cases hmm : m2 = m
  · subst hmm
    go_upto_region 5 with (fail)
    refine wp_region_held_drew (S := EvHeld g5 (g + 1) c2 c1) (by kernel_rfl) ?_ (fun hHeld => ?_)
    · exact EvHeld.mk HX2.out HE2.out HS2.out HS1.out
    refine wpAnyH_take (i := 0) (oi := ⟨some 18, _, _, _, _, _⟩) (v := ?_) rfl (by kernel_rfl) (by kernel_rfl) (by kernel_rfl) (fun _ _ _ h => h) (Or.inl ⟨by rfl, ?_⟩) (by assumption) ?_
    rotate_left
    · (intro w hSw; rfl)
    try simp only [Act.put, List.setIfInBounds_toArray, List.set_cons_zero, List.set_cons_succ]
    refine wpAnyH_take (i := 1) (oi := ⟨some 19, _, _, _, _, _⟩) (v := ?_) rfl (by kernel_rfl) (by kernel_rfl) (by kernel_rfl) (fun _ _ _ h => h) (Or.inl ⟨by rfl, ?_⟩) (by assumption) ?_
    rotate_left
    · (intro w hSw; refine exec_load_held 30 (.tmp 5) ?_ g5 ?_ c2 hSw.1 <;> rfl)
    try simp only [Act.put, List.setIfInBounds_toArray, List.set_cons_zero, List.set_cons_succ]
    refine wpAnyH_take (i := 3) (oi := ⟨some 21, _, _, _, _, _⟩) (v := ?_) rfl (by kernel_rfl) (by kernel_rfl) (by kernel_rfl) (fun _ _ _ h => h) (Or.inl ⟨by rfl, ?_⟩) (by assumption) ?_
    rotate_left
    · (intro w hSw; rfl)
    try simp only [Act.put, List.setIfInBounds_toArray, List.set_cons_zero, List.set_cons_succ]
    refine wpAnyH_take (i := 4) (oi := ⟨some 22, _, _, _, _, _⟩) (v := ?_) rfl (by kernel_rfl) (by kernel_rfl) (by kernel_rfl) (fun _ _ _ h => h) (Or.inl ⟨by rfl, ?_⟩) (by assumption) ?_
    rotate_left
    · (intro w hSw; refine exec_load_held 30 (.tmp 3) ?_ (g + 1) ?_ c1 hSw.2.1 <;> rfl)
    try simp only [Act.put, List.setIfInBounds_toArray, List.set_cons_zero, List.set_cons_succ]
    refine wpAnyH_ready (rs := [2]) (by kernel_rfl) (by simp) ?_
    refine AllReadyH.cons rfl (fun K hK => ?_) AllReadyH.nil
    go_simp
    ((with_reducible refine (HB1.out _).mono ?_); rintro e3 w3 ⟨rfl, hb3⟩; have HBA := Lib.hid hb3; clear hb3)
    go_wp2_with fail
    refine hK.out _ _ ?_ (fun hHeld => ?_)
    · exact EvHeld.below (by assumption) HBA.out HS2.out HS1.out
    clear hK K
    try simp only [Act.put, List.setIfInBounds_toArray, List.set_cons_zero, List.set_cons_succ]
    refine wpAnyH_ready (rs := [5]) (by kernel_rfl) (by simp) ?_
    refine AllReadyH.cons rfl (fun K hK => ?_) AllReadyH.nil
    go_simp
    ((with_reducible refine (HB2.out _).mono ?_); rintro e4 w4 ⟨rfl, hb4⟩; have HBB := Lib.hid hb4; clear hb4)
    go_wp2_with fail
    refine hK.out _ _ ?_ (fun hHeld => ?_)
    · exact EvHeld.below (by assumption) HBB.out HS2.out HS1.out
    clear hK K
    try simp only [Act.put, List.setIfInBounds_toArray, List.set_cons_zero, List.set_cons_succ]
    refine wpAnyH_take (i := 6) (oi := ⟨some 24, _, _, _, _, _⟩) (v := ?_) rfl (by kernel_rfl) (by kernel_rfl) (by kernel_rfl) (fun _ _ _ h => h) (Or.inl ⟨by rfl, ?_⟩) (by assumption) ?_
    rotate_left
    · (intro w hSw; refine bare_eq e2 e w (.tmp 20) (.tmp 23) ?_ ?_ ?_ <;> rfl)
    try simp only [Act.put, List.setIfInBounds_toArray, List.set_cons_zero, List.set_cons_succ]
    refine wpAnyH_take (i := 7) (oi := ⟨some 4, _, _, _, _, _⟩) (v := ?_) rfl (by kernel_rfl) (by kernel_rfl) (by kernel_rfl) (fun _ _ _ h => h) (Or.inl ⟨by rfl, ?_⟩) (by assumption) ?_
    rotate_left
    · (intro w hSw; rfl)
    try simp only [Act.put, List.setIfInBounds_toArray, List.set_cons_zero, List.set_cons_succ]
    refine wpAnyH_done (by kernel_rfl) ?_ _
    go_wp2_with fail
    go_ret
    refine ⟨ret_bool (by simp), ?_⟩
    have h9 := HG.out
    exact G.bl_trans (G.bl_trans (G.bl_trans (show Below w.heap.size w w2 by rw [← h9]; exact hBL2.out) (Below.refl _ _).drew) HBA.out) HBB.out
  · have hm2 : ((m2 : Int) != m) = true := by rw [bne_iff_ne]; exact fun h => hmm (by omega)
    have HNO := Lib.hid (show Ending.returned (.bool true) = .returned (.bool true) ∧ ∀ b : Bool, (decide (m2 = m) && b) = false from ⟨rfl, fun b => by simp [hmm]⟩)
    clear hmm
    go_wp2_with fail
    go_ret
    exact ⟨ret_bool (HNO.out.2 _).symm, by rw [← HG.out]; exact hBL2.out⟩
end Go.Proofs.YtofgmijmhpmabaaGreatDoor.D

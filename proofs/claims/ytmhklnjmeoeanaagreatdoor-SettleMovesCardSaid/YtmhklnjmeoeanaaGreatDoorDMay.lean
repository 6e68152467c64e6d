/- The contract of deed.may: a copy of a state that may be. -/
import Derived.Test.YtmhklnjmeoeanaaGreatDoorDPlain
import Derived.Test.YtmhklnjmeoeanaaGreatDoorDEnd
import Derived.Test.YtmhklnjmeoeanaaGreatDoorDCopyS
import Derived.Test.YtmhklnjmeoeanaaGreatDoorDCheckW
namespace Go.Proofs.YtmhklnjmeoeanaaGreatDoor.D
open Go Go.RowKit
set_option linter.unusedVariables false
set_option linter.unusedSimpArgs false
/-- What the functions of a kind do. -/
structure KindFns (k : Int) (a b c : FuncId) : Prop where
  e1 : ∀ args w, (callFunc a args).run Tryz.prog w = .ok (.enter a args) w
  e2 : ∀ args w, (callFunc b args).run Tryz.prog w = .ok (.enter b args) w
  e3 : ∀ args w, (callFunc c args).run Tryz.prog w = .ok (.enter c args) w
  keep : ∀ (w : World) (y : EV) (e : Ev), e.kind = k → Calls Tryz.prog a #[y.val e] w fun e' w' => e' = .returned ((keepV y e).val (keepE e)) ∧ Below w.heap.size w w'
  do_ : ∀ (g base : Nat) (x : SV) (s : St) (w : World) (y : EV) (e : Ev), StAt w g base x s → May s → RdEv w y e → e.Fits → e.order.length ≤ 33554432 → e.kind = k → Calls Tryz.prog b #[.pointer (some ⟨g, 0, none⟩), y.val e] w (StepPost s (doE s e) g base w)
  back : ∀ (g base : Nat) (x : SV) (s : St) (w : World) (y : EV) (e : Ev), StAt w g base x s → May s → RdEv w y e → e.Fits → e.order.length ≤ 33554432 → e.kind = k → Calls Tryz.prog c #[.pointer (some ⟨g, 0, none⟩), y.val e] w (StepPost s (backE s e) g base w)
theorem kind1_fns : KindFns 1 115 116 118 :=
  ⟨Tryz.call115, Tryz.call116, Tryz.call118, fun w y e hk => keep1_any w y e hk,
    fun g base x s w y e hs hm hr hf hl hk => by
      rw [show doE s e = _ by unfold doE; rw [if_pos hk]]
      exact do1_any g base x s w y e hs hm hr hf hl,
    fun g base x s w y e hs hm hr hf hl hk => by
      rw [show backE s e = _ by unfold backE; rw [if_pos hk]]
      exact back1_any g base x s w y e hs hm hr hf hl⟩
theorem kind2_fns : KindFns 2 121 122 124 :=
  ⟨Tryz.call121, Tryz.call122, Tryz.call124, fun w y e hk => keep2_any w y e hk,
    fun g base x s w y e hs hm hr hf hl hk => by
      rw [show doE s e = _ by unfold doE; rw [if_neg (by omega), if_pos hk]]
      exact do2_any g base x s w y e hs hm hr hf hl,
    fun g base x s w y e hs hm hr hf hl hk => by
      rw [show backE s e = _ by unfold backE; rw [if_neg (by omega), if_pos hk]]
      exact back2_any g base x s w y e hs hm hr hf hl⟩
theorem kind3_fns : KindFns 3 127 128 129 :=
  ⟨Tryz.call127, Tryz.call128, Tryz.call129, fun w y e hk => keep3_any w y e hk,
    fun g base x s w y e hs hm hr hf hl hk => by
      rw [show doE s e = _ by unfold doE; rw [if_neg (by omega), if_neg (by omega), if_pos hk]]
      exact do3_any g base x s w y e hs hm hr hf hl,
    fun g base x s w y e hs hm hr hf hl hk => by
      rw [show backE s e = _ by unfold backE; rw [if_neg (by omega), if_neg (by omega), if_pos hk]]
      exact back3_any g base x s w y e hs hm hr hf hl⟩
theorem kind4_fns : KindFns 4 131 132 134 :=
  ⟨Tryz.call131, Tryz.call132, Tryz.call134, fun w y e hk => keep4_any w y e hk,
    fun g base x s w y e hs hm hr hf hl hk => by
      rw [show doE s e = _ by unfold doE; rw [if_neg (by omega), if_neg (by omega), if_neg (by omega), if_pos hk]]
      exact do4_any g base x s w y e hs hm hr hf hl,
    fun g base x s w y e hs hm hr hf hl hk => by
      rw [show backE s e = _ by unfold backE; rw [if_neg (by omega), if_neg (by omega), if_neg (by omega), if_pos hk]]
      exact back4_any g base x s w y e hs hm hr hf hl⟩
theorem kind5_fns : KindFns 5 138 139 141 :=
  ⟨Tryz.call138, Tryz.call139, Tryz.call141, fun w y e hk => keep5_any w y e hk,
    fun g base x s w y e hs hm hr hf hl hk => by
      rw [show doE s e = _ by unfold doE; rw [if_neg (by omega), if_neg (by omega), if_neg (by omega), if_neg (by omega), if_pos hk]]
      exact do5_any g base x s w y e hs hm hr hf hl,
    fun g base x s w y e hs hm hr hf hl hk => by
      rw [show backE s e = _ by unfold backE; rw [if_neg (by omega), if_neg (by omega), if_neg (by omega), if_neg (by omega), if_pos hk]]
      exact back5_any g base x s w y e hs hm hr hf hl⟩
theorem kind6_fns : KindFns 6 143 144 146 :=
  ⟨Tryz.call143, Tryz.call144, Tryz.call146, fun w y e hk => keep6_any w y e hk,
    fun g base x s w y e hs hm hr hf hl hk => by
      rw [show doE s e = _ by unfold doE; rw [if_neg (by omega), if_neg (by omega), if_neg (by omega), if_neg (by omega), if_neg (by omega), if_pos hk]]
      exact do6_any g base x s w y e hs hm hr hf hl,
    fun g base x s w y e hs hm hr hf hl hk => by
      rw [show backE s e = _ by unfold backE; rw [if_neg (by omega), if_neg (by omega), if_neg (by omega), if_neg (by omega), if_neg (by omega), if_pos hk]]
      exact back6_any g base x s w y e hs hm hr hf hl⟩
theorem kind7_fns : KindFns 7 148 149 150 :=
  ⟨Tryz.call148, Tryz.call149, Tryz.call150, fun w y e hk => keep7_any w y e hk,
    fun g base x s w y e hs hm hr hf hl hk => by
      rw [show doE s e = _ by unfold doE; rw [if_neg (by omega), if_neg (by omega), if_neg (by omega), if_neg (by omega), if_neg (by omega), if_neg (by omega), if_pos hk]]
      exact do7_any g base x s w y e hs hm hf,
    fun g base x s w y e hs hm hr hf hl hk => by
      rw [show backE s e = _ by unfold backE; rw [if_neg (by omega), if_neg (by omega), if_neg (by omega), if_neg (by omega), if_neg (by omega), if_neg (by omega), if_pos hk]]
      exact back7_any g base x s w y e hs hm hf⟩
theorem kind_fns {k : Int} (h1 : 1 ≤ k) (h7 : k ≤ 7) : ∃ a b c d, kindK k = #[.func (.func a) #[] #[], .func (.func b) #[] #[], .func (.func c) #[] #[], .func (.func d) #[] #[]] ∧ KindFns k a b c := by
  have hk : k = 1 ∨ k = 2 ∨ k = 3 ∨ k = 4 ∨ k = 5 ∨ k = 6 ∨ k = 7 := by omega
  rcases hk with rfl | rfl | rfl | rfl | rfl | rfl | rfl
  · exact ⟨_, _, _, _, rfl, kind1_fns⟩
  · exact ⟨_, _, _, _, rfl, kind2_fns⟩
  · exact ⟨_, _, _, _, rfl, kind3_fns⟩
  · exact ⟨_, _, _, _, rfl, kind4_fns⟩
  · exact ⟨_, _, _, _, rfl, kind5_fns⟩
  · exact ⟨_, _, _, _, rfl, kind6_fns⟩
  · exact ⟨_, _, _, _, rfl, kind7_fns⟩
noncomputable def plainB (e : Ev) : Bool := decide (PlainE e)
theorem keep_order (e : Ev) : (keepE e).order = e.order ∨ (keepE e).order = [] := by
  unfold keepE
  repeat' split
  all_goals first | exact .inl rfl | exact .inr rfl
theorem keep_iff {e : Ev} (h1 : 1 ≤ e.kind) (h7 : e.kind ≤ 7) : (decide ((keepE e).order.length = e.order.length) && bareB (keepE e) e) = plainB e := by
  unfold plainB
  rw [Bool.eq_iff_iff, Bool.and_eq_true, decide_eq_true_eq, decide_eq_true_eq, bareB_iff]
  refine ⟨fun ⟨hl, hb⟩ => ⟨⟨h1, h7⟩, ?_⟩, fun h => by rw [h.2]; exact ⟨rfl, rfl⟩⟩
  have ho : (keepE e).order = e.order := by
    rcases keep_order e with h | h
    · exact h
    · rw [h] at hl ⊢
      exact (List.eq_nil_of_length_eq_zero hl.symm).symm
  generalize keepE e = f at *
  obtain ⟨a0, a1, a2, a3, a4, a5, a6, a7, a8, a9, a10, a11⟩ := f
  obtain ⟨b0, b1, b2, b3, b4, b5, b6, b7, b8, b9, b10, b11⟩ := e
  simp only [bareA, Array.mk.injEq, List.cons.injEq, Value.int.injEq, true_and, and_true] at hb ho
  obtain ⟨rfl, rfl, rfl, rfl, rfl, rfl, rfl, rfl, rfl, rfl, rfl⟩ := hb
  subst ho
  rfl
theorem keep_len (e : Ev) (h : e.order.length ≤ 33554432) : (keepE e).order.length ≤ 33554432 := by
  rcases keep_order e with h2 | h2 <;> rw [h2]
  · exact h
  · simp
theorem plain_any {a : FuncId} {F1 F2 F3 : Value} (w : World) (y : EV) (e : Ev) (h1 : 1 ≤ e.kind) (h7 : e.kind ≤ 7) (hl : e.order.length ≤ 33554432) (eg : ∀ args w, (callFunc a args).run Tryz.prog w = .ok (.enter a args) w)
    (hk : ∀ w : World, Calls Tryz.prog a #[y.val e] w fun e' w' => e' = .returned ((keepV y e).val (keepE e)) ∧ Below w.heap.size w w') :
    Calls Tryz.prog 91 #[.agg #[.func (.func a) #[] #[], F1, F2, F3], y.val e] w (BoolPost (plainB e) w) := by
  rw [← keep_iff h1 h7]
  exact plain_gen a eg F1 F2 F3 w y (keepV y e) e (keepE e) hl (keep_len e hl) hk
theorem stepE_no {s : St} {e : Ev} {back : Bool} (h : ¬ PlainE e) : stepE s e back = none := if_neg h
theorem stepE_yes {s : St} {e : Ev} {back : Bool} (h : plainB e = true) : stepE s e back = if back then backE s e else doE s e := if_pos (of_decide_eq_true h)
theorem wpList_load_row_g {P : Program} {ops : Array Oper} {rest : List Oper} {o : Oper} {a : Act} {w : World} {Q : Exit → Act → World → Prop} (hw : Region.wanted o (yielded ops a.tmps) = true) (ty : TypeId) (x : Operand) (ho : o.op = .load ty x)
    (g : Nat) (hx : a.eval x = .pointer (some ⟨g, 0, none⟩)) (t : TypeId) (cs : Array Value) (fr : Nat × Nat) (d : TypeDesc) (hg : w.heap[g]? = some (.cells cs t fr))
    (hu : P.underlying ty = some d) (hd : (match d with | .struct _ | .array _ _ => true | _ => false) = true) (hi : (P.info? ty).map (·.size) = some cs.size)
    (h : wpList P ops Q rest (a.put o.dst (.agg cs)) w) : wpList P ops Q (o :: rest) a w :=
  wpList_step fun K hK => by
    simp only [hw, if_true]
    exact wp_load_row ty x ho g hx t cs fr d hg hu hd hi (hK _ _ h)
theorem undKind : ∃ fs, Tryz.prog.underlying 161 = some (.struct fs) := by
  have hu : (Tryz.prog.underlying 161).map (fun d => match d with | .struct _ => true | _ => false) = some true := by kernel_rfl
  cases hx : Tryz.prog.underlying 161 with
  | none => rw [hx] at hu; simp at hu
  | some d =>
    rw [hx] at hu
    cases d <;> simp at hu
    exact ⟨_, rfl⟩
set_option maxRecDepth 100000 in
set_option maxHeartbeats 4000000 in
theorem step_any (g base : Nat) (x : SV) (s : St) (w : World) (y : EV) (e : Ev) (back : Bool) (hs : StAt w g base x s) (hm : May s) (hr : RdEv w y e) (hf : e.Fits) (hl : e.order.length ≤ 33554432) :
    Calls Tryz.prog 71 #[.pointer (some ⟨g, 0, none⟩), y.val e, .bool back] w (StepPost s (stepE s e back) g base w) := by
  have HS := Lib.hid hs
  have HM := Lib.hid hm
  have HR := Lib.hid hr
  have HF := Lib.hid hf
  have HL := Lib.hid hl
  obtain ⟨fsE, hfsE⟩ := undEv
  have HFS := Lib.hid hfsE
  obtain ⟨fsK, hfsK⟩ := undKind
  have HFK := Lib.hid hfsK
  have HBS := Lib.hid hs.base_le
  have HOF := Lib.hid (fun W => of_any W y e hf)
  obtain ⟨c1, hc1⟩ : ∃ c, c = y.arr e := ⟨_, rfl⟩
  have HC1 := Lib.hid hc1
  have HS1 := Lib.hid (show c1.size = 12 by rw [hc1]; rfl)
  clear hs hm hr hf hl hfsE hfsK hc1
  have he : y.val e = .agg c1 := by rw [HC1.out]; rfl
  rw [he] at HOF ⊢
  have HE := Lib.hid he
  clear he
  by_cases hk : 1 ≤ e.kind ∧ e.kind ≤ 7
  · rw [show decide (1 ≤ e.kind ∧ e.kind ≤ 7) = true from decide_eq_true hk] at HOF
    obtain ⟨fa, fb, fc, fd, hkk, hfn⟩ := kind_fns hk.1 hk.2
    rw [hkk] at HOF
    have HPL := Lib.hid (fun W => plain_any (F1 := .func (.func fb) #[] #[]) (F2 := .func (.func fc) #[] #[]) (F3 := .func (.func fd) #[] #[]) W y e hk.1 hk.2 HL.out hfn.e1 (fun w => hfn.keep w y e rfl))
    rw [HE.out] at HPL
    have HFN := Lib.hid hfn
    have e2 := hfn.e2
    have e3 := hfn.e3
    clear hk hkk hfn
    go_enter Tryz.func71, Tryz.ntmps71
    go_upto_region 1 with (fail)
    obtain ⟨KA, hKA⟩ : ∃ KA : Array Value, KA = #[.func (.func fa) #[] #[], .func (.func fb) #[] #[], .func (.func fc) #[] #[], .func (.func fd) #[] #[]] := ⟨_, rfl⟩
    have HKA := Lib.hid hKA
    have HKS := Lib.hid (show (Tryz.prog.info? 161).map (·.size) = some KA.size by rw [hKA]; kernel_rfl)
    have HKO := Lib.hid (show KA.all (·.oneCell') = true by rw [hKA]; simp [Value.oneCell'])
    rw [← hKA] at HOF HPL
    clear hKA
    have HE0 := Lib.hid (G.Blk.new w 37 c1)
    have HB0 := Lib.hid (G.bl_alloc (Below.refl w.heap.size w) (.cells c1 37))
    obtain ⟨w0, hw0⟩ : ∃ w0, w0 = w.alloc (.cells c1 37) := ⟨_, rfl⟩
    rw [← hw0] at HE0 HB0 ⊢
    clear hw0
    obtain ⟨ge, hge⟩ : ∃ ge, ge = w.heap.size := ⟨_, rfl⟩
    rw [← hge] at HE0 ⊢
    have HGE := Lib.hid hge
    have hl0 := HE0.out.lt
    clear hge
    go_upto_region 2 with (first | (refine wpList_load_row rfl 37 _ rfl ge rfl _ c1 (0, 0) _ HE0.out HFS.out rfl (by rw [HS1.out]; exact sizeEv) ?_) | ((with_reducible refine (HOF.out _).mono ?_); rintro e1 w1 ⟨rfl, hb1⟩; have HBW1 := Lib.hid hb1; clear hb1) | (refine wpList_store_row rfl 161 _ _ rfl _ KA rfl rfl 161 _ (heap_alloc_new _ _) HKS.out (by rw [HKA.out]; rfl) HKO.out ?_))
    generalize hw2 : World.setRow _ _ _ = w2
    have hl1 : ge < w1.heap.size := by have := HBW1.out.size; omega
    have HBL2 := Lib.hid (show Below w.heap.size w w2 by rw [← hw2]; exact below_setRow (G.bl_alloc (G.bl_trans HB0.out HBW1.out) _) (by have := HGE.out; omega) _)
    have HK2 := Lib.hid (show G.Blk w2 w1.heap.size 161 KA by rw [← hw2]; exact setRow_heap _ _ _ _ _ _ (heap_alloc_new _ _))
    have HE2 := Lib.hid (show G.Blk w2 ge 37 c1 by unfold G.Blk; rw [← hw2, setRow_other _ _ _ _ (by omega), heap_alloc_old _ _ (by omega), HBW1.out.block _ (by omega)]; exact HE0.out)
    clear hw2
    obtain ⟨gk, hgk⟩ : ∃ gk, gk = w1.heap.size := ⟨_, rfl⟩
    rw [← hgk] at hl1 HK2 ⊢
    clear hgk hl0
    by_cases hp : plainB e = true
    · rw [hp] at HPL
      have HST := Lib.hid (stepE_yes (s := s) (back := back) hp)
      clear hp
      go_upto_region 4 with (first | (refine wpList_load_row_g (by rfl) 161 _ rfl gk rfl _ KA (0, 0) _ HK2.out HFK.out rfl HKS.out ?_) | (refine wpList_load_row_g (by rfl) 37 _ rfl ge rfl _ c1 (0, 0) _ HE2.out HFS.out rfl (by rw [HS1.out]; exact sizeEv) ?_) | ((with_reducible refine (HPL.out _).mono ?_); rintro e3 w3 ⟨rfl, hb3⟩; have HBW3 := Lib.hid hb3; clear hb3))
      have HK3 := Lib.hid (HK2.out.below HBW3.out HK2.out.lt)
      have HE3 := Lib.hid (HE2.out.below HBW3.out HE2.out.lt)
      have HBL3 := Lib.hid (G.bl_trans HBL2.out HBW3.out)
      have hk1 := (HK3.out.cell 1).trans (by rw [HKA.out]; rfl : KA[1]? = some (.func (.func fb) #[] #[]))
      have hk2 := (HK3.out.cell 2).trans (by rw [HKA.out]; rfl : KA[2]? = some (.func (.func fc) #[] #[]))
      have hl3 := HK3.out.lt
      have HDO := Lib.hid (HFN.out.do_ g base x s w3 y e (HS.out.below HBL3.out) HM.out (RdEv.below HR.out HBL3.out) HF.out HL.out rfl)
      have HBA := Lib.hid (HFN.out.back g base x s w3 y e (HS.out.below HBL3.out) HM.out (RdEv.below HR.out HBL3.out) HF.out HL.out rfl)
      rw [HE.out] at HDO HBA
      cases back
      · go_wp2_with (first | (refine wpList_load_row rfl 37 _ rfl ge rfl _ c1 (0, 0) _ HE3.out HFS.out rfl (by rw [HS1.out]; exact sizeEv) ?_) | ((with_reducible refine (HDO.out).mono ?_); rintro en w5 hp5; have HP5 := Lib.hid (hp5.lift (Bk.of HBL3.out HBS.out)); obtain ⟨b5, rfl, hb5, hc5⟩ := hp5; clear hb5 hc5))
        go_ret
        have h9 := HP5.out
        rw [show doE s e = stepE s e false from HST.out.symm] at h9
        exact h9
      · go_wp2_with (first | (refine wpList_load_row rfl 37 _ rfl ge rfl _ c1 (0, 0) _ HE3.out HFS.out rfl (by rw [HS1.out]; exact sizeEv) ?_) | ((with_reducible refine (HBA.out).mono ?_); rintro en w5 hp5; have HP5 := Lib.hid (hp5.lift (Bk.of HBL3.out HBS.out)); obtain ⟨b5, rfl, hb5, hc5⟩ := hp5; clear hb5 hc5))
        go_ret
        have h9 := HP5.out
        rw [show backE s e = stepE s e true from HST.out.symm] at h9
        exact h9
    · have hp2 : plainB e = false := by cases h : plainB e <;> simp_all
      rw [hp2] at HPL
      have HST := Lib.hid (stepE_no (s := s) (e := e) (back := back) (fun h => hp (decide_eq_true h)))
      clear hp hp2
      go_wp2_with (first | (refine wpList_load_row_g (by rfl) 161 _ rfl gk rfl _ KA (0, 0) _ HK2.out HFK.out rfl HKS.out ?_) | (refine wpList_load_row_g (by rfl) 37 _ rfl ge rfl _ c1 (0, 0) _ HE2.out HFS.out rfl (by rw [HS1.out]; exact sizeEv) ?_) | ((with_reducible refine (HPL.out _).mono ?_); rintro e3 w3 ⟨rfl, hb3⟩; have HBW3 := Lib.hid hb3; clear hb3))
      go_ret
      exact stepP_no HST.out (Bk.of (G.bl_trans HBL2.out HBW3.out) HBS.out)
  · rw [show decide (1 ≤ e.kind ∧ e.kind ≤ 7) = false from decide_eq_false hk] at HOF
    have HST := Lib.hid (stepE_no (s := s) (e := e) (back := back) (fun h => hk h.1))
    rw [kindK_out (by omega)] at HOF
    clear hk
    have HE0 := Lib.hid (G.Blk.new w 37 c1)
    have HB0 := Lib.hid (G.bl_alloc (Below.refl w.heap.size w) (.cells c1 37))
    go_enter Tryz.func71, Tryz.ntmps71
    go_wp2_with (first | (refine wpList_load_row rfl 37 _ rfl w.heap.size rfl _ c1 (0, 0) _ HE0.out HFS.out rfl (by rw [HS1.out]; exact sizeEv) ?_) | ((with_reducible refine (HOF.out _).mono ?_); rintro e1 w1 ⟨rfl, hb1⟩; have HBW1 := Lib.hid hb1; clear hb1) | (refine wpList_store_row rfl 161 _ _ rfl _ nilK rfl rfl 161 _ (heap_alloc_new _ _) (by kernel_rfl) (by kernel_rfl) (by kernel_rfl) ?_))
    go_ret
    exact stepP_no HST.out (Bk.of (below_setRow (G.bl_alloc (G.bl_trans HB0.out HBW1.out) _) (by have := HBW1.out.size; have := HB0.out.size; omega) _) HBS.out)
end Go.Proofs.YtmhklnjmeoeanaaGreatDoor.D
namespace Go.Proofs.YtmhklnjmeoeanaaGreatDoor.D
open Go Go.RowKit
set_option linter.unusedVariables false
set_option linter.unusedSimpArgs false
theorem undSt : ∃ fs, Tryz.prog.underlying 27 = some (.struct fs) := by
  have hu : (Tryz.prog.underlying 27).map (fun d => match d with | .struct _ => true | _ => false) = some true := by kernel_rfl
  cases hx : Tryz.prog.underlying 27 with
  | none => rw [hx] at hu; simp at hu
  | some d =>
    rw [hx] at hu
    cases d <;> simp at hu
    exact ⟨_, rfl⟩
theorem sizeSt : (Tryz.prog.info? 27).map (·.size) = some 7 := by kernel_rfl
def zeroA : Array Value := #[.slice none 0 0, .slice none 0 0, .slice none 0 0, .int .i32 0, .int .i64 0, .int .i8 0, .int .i64 0]
theorem zeroA_b : Tryz.prog.built 27 [] = some zeroA := by kernel_rfl
theorem zeroA_eq : zeroSV.arr zeroSt = zeroA := rfl
theorem arr_size (x : SV) (s : St) : (x.arr s).size = 7 := rfl
theorem arr_one (x : SV) (s : St) : (x.arr s).all (·.oneCell') = true := by simp [SV.arr, Value.oneCell']
theorem st_results2 {fn : Func} {p q : Tmp} (h : fn.results = #[.cell p 27, .tmp q]) (tmps : Array Value) (w : World) (g : Nat) (cs : Array Value) (v : Value) (hp : tmps.getD p undef = .pointer (some ⟨g, 0, none⟩)) (hq : tmps.getD q undef = v) (hg : w.heap[g]? = some (.cells cs 27 (0, 0))) (hs : cs.size = 7) :
    (results fn tmps).run Tryz.prog w = .ok (.tuple #[.agg cs, v]) w := by
  have hp' : tmps[p]?.getD undef = .pointer (some ⟨g, 0, none⟩) := by simpa using hp
  have hq' : tmps[q]?.getD undef = v := by simpa using hq
  simp [results, h, hp', hq', asAddr, run_st hg hs]
def MayPost (s : St) (w : World) (e : Ending) (w' : World) : Prop :=
  ∃ (x' : SV) (t : St) (b : Bool), e = .returned (.tuple #[x'.val t, .bool b]) ∧ OwnSt w' w.heap.size x' t ∧ Below w.heap.size w w' ∧ ((b = true ∧ May s ∧ t = s) ∨ (b = false ∧ ¬ May s ∧ t = zeroSt ∧ x' = zeroSV))
theorem mayP_no {s : St} {w w' : World} (h : ¬ May s) (hb : Below w.heap.size w w') : MayPost s w (.returned (.tuple #[.agg zeroA, .bool false])) w' := ⟨zeroSV, zeroSt, false, rfl, zero_own _ _, hb, .inr ⟨rfl, h, rfl, rfl⟩⟩
theorem mayP_yes {s : St} {w w' : World} {x' : SV} (h : May s) (ho : OwnSt w' w.heap.size x' s) (hb : Below w.heap.size w w') : MayPost s w (.returned (.tuple #[.agg (x'.arr s), .bool true])) w' := ⟨x', s, true, rfl, ho, hb, .inl ⟨rfl, h, rfl⟩⟩
set_option maxRecDepth 100000 in
set_option maxHeartbeats 4000000 in
theorem mayD_any (x : SV) (s : St) (w : World) (h : RdSt w x s) (hz : Sz s) : Calls Tryz.prog 70 #[x.val s] w (MayPost s w) := by
  obtain ⟨fsS, hfsS⟩ := undSt
  have HFS := Lib.hid hfsS
  have HCK := Lib.hid (fun W (hW : Below w.heap.size w W) => check_any x s W (h.below hW) hz)
  have HCP := Lib.hid (fun W (hW : Below w.heap.size w W) => copy_any x s W (h.below hW) hz)
  obtain ⟨c, hc⟩ : ∃ c, c = x.arr s := ⟨_, rfl⟩
  have HC := Lib.hid hc
  have HS := Lib.hid (show c.size = 7 by rw [hc]; rfl)
  have he : x.val s = .agg c := by rw [hc]; rfl
  rw [he] at HCK HCP ⊢
  clear h hz hc he hfsS
  have H0 := two_new w 27 c zeroA
  go_enter Tryz.func70, Tryz.ntmps70
  go_upto_region 1 with (fail)
  obtain ⟨w0, hw0⟩ : ∃ w0, w0 = (w.alloc (.cells c 27)).alloc (.cells zeroA 27) := ⟨_, rfl⟩
  rw [← hw0] at H0
  unfold zeroA at hw0
  rw [← hw0]
  clear hw0
  obtain ⟨hb0, hb0', hbl0⟩ := H0
  have HBL0 := Lib.hid hbl0
  obtain ⟨g, hg⟩ : ∃ g, g = w.heap.size := ⟨_, rfl⟩
  have HG := Lib.hid hg
  rw [← hg] at hb0 hb0' ⊢
  have HB0 := Lib.hid hb0
  have HB0' := Lib.hid hb0'
  clear hb0 hb0' hbl0 hg
  go_upto_region 2 with (first | (refine wpList_load_row rfl 27 _ rfl g rfl _ c (0, 0) _ HB0.out HFS.out rfl (by rw [HS.out]; exact sizeSt) ?_) | ((with_reducible refine (HCK.out _ HBL0.out).mono ?_); rintro e1 w1 hp1; obtain ⟨k1, at1, rfl, hk1, hb1⟩ := hp1; have HBW1 := Lib.hid hb1; clear hb1))
  rcases hk1 with ⟨rfl, hm⟩ | ⟨rfl, hm⟩
  · have HM := Lib.hid hm
    have HB1 := Lib.hid (HB0.out.below HBW1.out HB0.out.lt)
    have HB1' := Lib.hid (HB0'.out.below HBW1.out HB0'.out.lt)
    have HBL1 := Lib.hid (G.bl_trans HBL0.out HBW1.out)
    clear hm
    go_wp2_with (first | (refine wpList_load_row rfl 27 _ rfl g rfl _ c (0, 0) _ HB1.out HFS.out rfl (by rw [HS.out]; exact sizeSt) ?_) | ((with_reducible refine (HCP.out _ HBL1.out).mono ?_); rintro e1 w2 hp2; obtain ⟨x2, rfl, ho2, hb2⟩ := hp2; have HBW2 := Lib.hid hb2; have HO2 := Lib.hid ho2; have HB2' := Lib.hid (HB1'.out.below hb2 HB1'.out.lt); clear hb2 ho2) | (refine wpList_store_row rfl 27 _ _ rfl (g + 1) (x2.arr s) rfl rfl 27 _ HB2'.out (by kernel_rfl) rfl (arr_one _ _) ?_))
    have HBL2 := Lib.hid (G.bl_trans HBL1.out HBW2.out)
    refine bodyPost_ret (v := .tuple #[.agg (x2.arr s), .bool true]) (st_results2 rfl _ _ (g + 1) _ _ rfl rfl (setRow_heap _ _ _ _ _ _ HB2'.out) rfl) rfl (mayP_yes HM.out ?_ ?_)
    · exact (HO2.out.ge (by have := HBL1.out.size; exact this)).only (only_row HB2'.out) (by decide) (by decide) (by decide) (by decide)
    · exact below_setRow HBL2.out (by have := HG.out; omega) _
  · have HM := Lib.hid hm
    have HB1' := Lib.hid (HB0'.out.below HBW1.out HB0'.out.lt)
    have HBL1 := Lib.hid (G.bl_trans HBL0.out HBW1.out)
    clear hm
    go_wp2_with (first | (refine build_to zeroA rfl 27 _ rfl _ (by kernel_rfl) zeroA_b ?_) | (refine wpList_store_row rfl 27 _ _ rfl (g + 1) zeroA rfl rfl 27 _ HB1'.out (by kernel_rfl) (by kernel_rfl) (by kernel_rfl) ?_))
    refine bodyPost_ret (v := .tuple #[.agg zeroA, .bool false]) (st_results2 rfl _ _ (g + 1) _ _ rfl rfl (setRow_heap _ _ _ _ _ _ HB1'.out) rfl) rfl (mayP_no HM.out ?_)
    exact below_setRow HBL1.out (by have := HG.out; omega) _
end Go.Proofs.YtmhklnjmeoeanaaGreatDoor.D

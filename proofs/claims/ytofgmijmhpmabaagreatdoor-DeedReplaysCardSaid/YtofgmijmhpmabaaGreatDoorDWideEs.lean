/- The contracts of tableauref00.WideEvents, SpareEvents: lists of events of their own, with marks behind them. -/
import Derived.Test.YtofgmijmhpmabaaGreatDoorDWideEv
import Derived.Test.YtofgmijmhpmabaaGreatDoorDBackI
import Derived.Test.YtofgmijmhpmabaaGreatDoorDCopySt
import Derived.Test.YtofgmijmhpmabaaGreatDoorDMoveD
import Derived.Test.YtofgmijmhpmabaaGreatDoorDWideS
namespace Go.Proofs.YtofgmijmhpmabaaGreatDoor.D
open Go Go.RowKit
set_option linter.unusedVariables false
set_option linter.unusedSimpArgs false
theorem run_storeVar_at {P : Program} (w : World) (g off : Nat) (t ty : TypeId) (cur cells : Array Value) (hg : w.heap[g]? = some (.cells cur t (0, 0))) (hi : (P.info? ty).map (·.size) = some cells.size)
 (ho : off + cells.size ≤ cur.size) (h1 : cells.all (·.oneCell') = true) :
 (storeVar ty ⟨g, off, none⟩ (.agg cells)).run P w = .ok () (w.setRow g (cur.toList.take off ++ cells.toList ++ cur.toList.drop (off + cells.size)).toArray) := by
 have h := run_storeCells_at P g off t cells.toList 0 cur w hg (by simpa using ho) (fun v hv => (Array.all_eq_true_iff_forall_mem.1 h1) v (by simpa using hv))
 rw [Nat.add_zero, Array.length_toList] at h
 cases hq : P.info? ty with
 | none => simp [hq] at hi
 | some i =>
  have hs : cells.size = i.size := by simp [hq] at hi; omega
  have h2 : (storeVar ty ⟨g, off, none⟩ (.agg cells)).run P w = (storeCells ⟨g, off, none⟩ cells.toList 0).run P w := by simp [storeVar, sizeOf, typeInfo, hq, Value.cells, hs]
  rw [h2, h]
theorem wpList_store_at {P : Program} {ops : Array Oper} {rest : List Oper} {o : Oper} {a : Act} {w : World} {Q : Exit → Act → World → Prop} (hgd : o.guard = none) (ty : TypeId) (x y : Operand) (ho : o.op = .store ty x y)
 (g off : Nat) (cells : Array Value) (hx : a.eval x = .pointer (some ⟨g, off, none⟩)) (hy : a.eval y = .agg cells)
 (t : TypeId) (cur : Array Value) (hg : w.heap[g]? = some (.cells cur t (0, 0))) (hi : (P.info? ty).map (·.size) = some cells.size)
 (hold : off + cells.size ≤ cur.size) (h1 : cells.all (·.oneCell') = true) (new : Array Value) (hn : (cur.toList.take off ++ cells.toList ++ cur.toList.drop (off + cells.size)).toArray = new)
 (h : wpList P ops Q rest (a.put o.dst undef) (w.setRow g new)) : wpList P ops Q (o :: rest) a w :=
 wpList_plain hgd fun _ hK => by
  unfold Oper.wp execOp
  simp only [ho, hx, hy, Instr.storeAt, Instr.sureAddr, Sem.run_bind, Sem.run_pure, Result.andThen_ok, run_storeVar_at w g off t ty cur cells hg hi hold h1]
  rw [hn]
  exact hK _ _ h
def markEv (i : Nat) : Ev := { zeroEv with card := markI i }
/-- What the loop of WideEvents has made so far. -/
structure WeI (w wr : World) (n : Nat) (E : List Ev) (P : List (EV × Ev)) : Prop where
 bl : Below w.heap.size w wr
 z : ∃ R : List Value, R.length = (n + 64 - P.length) * 12 ∧ G.Blk wr w.heap.size 30 (flatE P ++ R).toArray
 lo : ∀ i, i < P.length → i < n → ∃ gI, P.getD i zeroP = (wEV gI (E.getD i zeroEv), E.getD i zeroEv) ∧ WEv wr w.heap.size gI (E.getD i zeroEv)
 hi : ∀ i, i < P.length → n ≤ i → P.getD i zeroP = (⟨none, 0⟩, markEv i)
 ap : ∀ i j, i < P.length → j < P.length → i < n → j < n → i ≠ j → (P.getD i zeroP).1.oa ≠ (P.getD j zeroP).1.oa
theorem snoc_lo {P : List (EV × Ev)} {p : EV × Ev} {i : Nat} (h : i < P.length) : (P ++ [p]).getD i zeroP = P.getD i zeroP := by
 rw [List.getD_eq_getElem?_getD, List.getElem?_append_left h, List.getD_eq_getElem?_getD]
theorem snoc_hi {P : List (EV × Ev)} {p : EV × Ev} : (P ++ [p]).getD P.length zeroP = p := by
 rw [List.getD_eq_getElem?_getD, List.getElem?_append_right (Nat.le_refl _), Nat.sub_self]
 rfl
/-- The block behind the store of an element. -/
theorem splice_ev {P : List (EV × Ev)} {R : List Value} {p : EV × Ev} {ce : Array Value} {k : Nat} (hk : k = P.length) (hc : ce = p.1.arr p.2) : ((flatE P ++ R).toArray.toList.take (k * 12) ++ ce.toList ++ (flatE P ++ R).toArray.toList.drop (k * 12 + ce.size)).toArray = (flatE (P ++ [p]) ++ R.drop 12).toArray := by
 subst hk hc
 have h1 := flatE_length P
 have h2 : (p.1.arr p.2).size = 12 := rfl
 have h3 : flatE (P ++ [p]) = flatE P ++ (p.1.arr p.2).toList := by simp [flatE, cellsE]
 rw [h3, h2]
 congr 1
 rw [List.take_append_of_le_length (by omega), List.take_of_length_le (by omega), List.drop_append, List.drop_of_length_le (by omega), List.nil_append, h1, show P.length * 12 + 12 - P.length * 12 = 12 by omega]
theorem WeI.next_lo {w wr w1 : World} {n k gI : Nat} {E : List Ev} {P : List (EV × Ev)} {new : Array Value} {R : List Value} (h : WeI w wr n E P) (hb : Below wr.heap.size wr w1) (hk : k = P.length) (hn : k < n) (hR : R.length = (n + 64 - P.length) * 12) (hB : G.Blk w1 w.heap.size 30 (flatE P ++ R).toArray)
 (hw : WEv w1 wr.heap.size gI (E.getD k zeroEv)) (hnew : new = (flatE (P ++ [(wEV gI (E.getD k zeroEv), E.getD k zeroEv)]) ++ R.drop 12).toArray) : WeI w (w1.setRow w.heap.size new) n E (P ++ [(wEV gI (E.getD k zeroEv), E.getD k zeroEv)]) := by
 have ho : G.Only 30 0 w1 (w1.setRow w.heap.size new) := only_row hB
 have hs := h.bl.size
 refine ⟨below_setRow (G.bl_trans h.bl hb) (Nat.le_refl _) _, ⟨R.drop 12, ?_, ?_⟩, fun i hi hin => ?_, fun i hi hin => ?_, fun i j hi hj hin hjn hne => ?_⟩
 ·rw [List.length_drop, hR, List.length_append, List.length_singleton]
  omega
 ·rw [← hnew]
  exact setRow_heap _ _ _ _ _ _ hB
 ·rw [List.length_append, List.length_singleton] at hi
  by_cases h1 : i < P.length
  ·rw [snoc_lo h1]
   obtain ⟨g2, e1, e2⟩ := h.lo i h1 hin
   exact ⟨g2, e1, ho.own (G.own_below e2 hb) (by decide)⟩
  ·obtain rfl : i = P.length := by omega
   subst hk
   rw [snoc_hi]
   exact ⟨gI, rfl, G.own_ge (ho.own hw (by decide)) hs⟩
 ·rw [List.length_append, List.length_singleton] at hi
  rw [snoc_lo (by omega)]
  exact h.hi i (by omega) hin
 ·rw [List.length_append, List.length_singleton] at hi hj
  have hfar : ∀ i, i < P.length → i < n → (P.getD i zeroP).1.oa ≠ some ⟨gI, 0, none⟩ := fun i hi hin e => by
   obtain ⟨g2, e1, e2⟩ := h.lo i hi hin
   rw [e1] at e
   simp only [wEV, Option.some.injEq, Addr.mk.injEq, and_true] at e
   subst e
   have a1 := (e2.lt g2 rfl).2
   have a2 := (hw.lt g2 rfl).1
   omega
  by_cases h1 : i < P.length
  ·rw [snoc_lo h1]
   by_cases h2 : j < P.length
   ·rw [snoc_lo h2]
    exact h.ap i j h1 h2 hin hjn hne
   ·obtain rfl : j = P.length := by omega
    rw [snoc_hi]
    exact hfar i h1 hin
  ·obtain rfl : i = P.length := by omega
   rw [snoc_hi, snoc_lo (by omega)]
   exact fun e => hfar j (by omega) hjn e.symm
theorem WeI.next_hi {w wr : World} {n k : Nat} {E : List Ev} {P : List (EV × Ev)} {new : Array Value} {R : List Value} (h : WeI w wr n E P) (hk : k = P.length) (hn : n ≤ k) (hkn : k < n + 64) (hR : R.length = (n + 64 - P.length) * 12) (hB : G.Blk wr w.heap.size 30 (flatE P ++ R).toArray)
 (hnew : new = (flatE (P ++ [((⟨none, 0⟩ : EV), markEv k)]) ++ R.drop 12).toArray) : WeI w (wr.setRow w.heap.size new) n E (P ++ [((⟨none, 0⟩ : EV), markEv k)]) := by
 have ho : G.Only 30 0 wr (wr.setRow w.heap.size new) := only_row hB
 refine ⟨below_setRow h.bl (Nat.le_refl _) _, ⟨R.drop 12, ?_, ?_⟩, fun i hi hin => ?_, fun i hi hin => ?_, fun i j hi hj hin hjn hne => ?_⟩
 ·rw [List.length_drop, hR, List.length_append, List.length_singleton]
  omega
 ·rw [← hnew]
  exact setRow_heap _ _ _ _ _ _ hB
 ·rw [List.length_append, List.length_singleton] at hi
  have h1 : i < P.length := by omega
  rw [snoc_lo h1]
  obtain ⟨g2, e1, e2⟩ := h.lo i h1 hin
  exact ⟨g2, e1, ho.own e2 (by decide)⟩
 ·rw [List.length_append, List.length_singleton] at hi
  by_cases h1 : i < P.length
  ·rw [snoc_lo h1]
   exact h.hi i h1 hin
  ·obtain rfl : i = P.length := by omega
   subst hk
   rw [snoc_hi]
 ·rw [List.length_append, List.length_singleton] at hi hj
  rw [snoc_lo (by omega), snoc_lo (by omega)]
  exact h.ap i j (by omega) (by omega) hin hjn hne
def WideEsPost (E : List Ev) (w : World) (e : Ending) (w' : World) : Prop := ∃ P, P.length = E.length + 64 ∧ e = .returned (.slice (some ⟨w.heap.size, 0, none⟩) E.length (E.length + 64)) ∧ WeI w w' E.length E P
set_option maxRecDepth 100000 in
set_option maxHeartbeats 8000000 in
theorem wideEvents_any (A : Option Addr) (n c : Nat) (L : List (EV × Ev)) (w : World) (hl : RdEvs w A n L) (hn : n ≤ 33554432) (ho : ∀ k, k < n → (L.getD k zeroP).2.order.length ≤ 33554432) :
 Calls Tryz.prog 34 #[.slice A n c] w (WideEsPost (L.map Prod.snd) w) := by
 obtain ⟨iE, hiE, hzE0, hzE1, hzE2⟩ := info_parts infoEv
 have HL := Lib.hid hl
 have HO := Lib.hid ho
 obtain ⟨E, hE⟩ : ∃ E, E = L.map Prod.snd := ⟨_, rfl⟩
 have HEN := Lib.hid (show E.length = n by rw [hE, List.length_map]; exact hl.len)
 have HEA := Lib.hid (show ∀ k, E.getD k zeroEv = (L.getD k zeroP).2 from fun k => by rw [hE]; exact getD_snd L k)
 rw [← hE]
 have HIE := Lib.hid (And.intro hiE (And.intro hzE0 (And.intro hzE1 hzE2)))
 clear hl ho hE
 go_enter Tryz.func34, Tryz.ntmps34
 go_wp2_with (refine wpList_make_full _ rfl _ _ 32 rfl w.heap.size 30 iE _ 12 Tryz.underlying32 hiE hzE0 hzE1 .i64 .i64 _ _ (n + 64) rfl rfl (by simp) (by simp) (by rw [hzE2]; omega) (by unfold maxLen; omega) (Nat.le_refl _) ?_; intro w1 ho1 hg1)
 have HI0 := Lib.hid (show WeI w w1 n E [] from by
  obtain ⟨hx, hd⟩ := ho1
  rcases hd with ⟨h, _⟩ | ⟨g, cap, cur, hv, _, hgg, _, _, hsz, _⟩
  ·cases h
  ·simp only [Value.slice.injEq, Option.some.injEq, Addr.mk.injEq, and_true, true_and] at hv
   obtain ⟨rfl, rfl⟩ := hv
   exact ⟨(Below.refl _ _).grown hg1 (Nat.le_refl _) (by simp), ⟨cur.toList, by simp [hsz], (show G.Blk w1 w.heap.size 30 (flatE [] ++ cur.toList).toArray from hgg)⟩, fun i hi => by simp at hi, fun i hi => by simp at hi, fun i j hi => by simp at hi⟩)
 clear ho1 hg1 hiE hzE0 hzE1 hzE2
 go_wp2
 go_loopw [4] (fun i wr => ∃ P : List (EV × Ev), P.length ≤ n + 64 ∧ i = .int .i64 P.length ∧ WeI w wr n E P) (fun i _ => n + 64 - (intOf i).toNat)
 case atStart => exact ⟨[], Nat.zero_le _, rfl, HI0.out⟩
 case round =>
  clear HI0
  obtain ⟨P, hP, rfl, hwi⟩ := hrel
  have HWI := Lib.hid hwi
  obtain ⟨k, hkk⟩ : ∃ k, k = P.length := ⟨_, rfl⟩
  have HK := Lib.hid hkk
  rw [← hkk] at hP ⊢
  have hws := hwi.bl.size
  obtain ⟨R, hR, hB⟩ := hwi.z
  have HR := Lib.hid hR
  have HB := Lib.hid hB
  clear hwi hkk hR hB
  by_cases hlt : k < n + 64
  ·have h0 : (k : Int) < n + 64 := by omega
   have h1 : (0 : Int) ≤ k := by omega
   obtain ⟨g, hg⟩ : ∃ g, g = w.heap.size := ⟨_, rfl⟩
   have HG := Lib.hid hg
   rw [← hg] at HB ⊢
   have hgl := HB.out.lt
   clear hg
   by_cases hkn : k < n
   ·have hknI : (k : Int) < n := by omega
    obtain ⟨b, off, hA, hbs, hrd, hre, _⟩ := ev_whole (HL.out.below HWI.out.bl) hkn
    subst hA
    have hlen := HO.out k hkn
    have HEK := Lib.hid (HEA.out k)
    obtain ⟨p, hp⟩ : ∃ p, p = L.getD k zeroP := ⟨_, rfl⟩
    rw [← hp] at hrd hre hlen HEK
    obtain ⟨y, e⟩ := p
    simp only at hrd hre hlen HEK
    obtain ⟨ce, hce⟩ : ∃ ce, ce = y.arr e := ⟨_, rfl⟩
    rw [← hce] at hrd
    have HRD := Lib.hid hrd
    have HWE := Lib.hid (wideEvent_any y e wr hre hlen)
    rw [show y.val e = .agg ce by rw [hce]; rfl] at HWE
    clear hrd hre hlen hp hce
    go_wp2_with (first | (refine wpList_load_run (by rfl) 30 _ rfl b (off + k * 12) rfl ce HRD.out ?_) | ((with_reducible refine (HWE.out).mono ?_); rintro e1 w1 hp1; obtain ⟨gI, rfl, ho1, hb1⟩ := hp1; have HO1 := Lib.hid ho1; have HB1 := Lib.hid hb1; have HBc := Lib.hid (HB.out.below hb1 HB.out.lt); clear ho1 hb1; obtain ⟨cf, hcf⟩ : ∃ c, c = (wEV gI e).arr e := ⟨_, rfl⟩; have HCF := Lib.hid hcf; have HSF := Lib.hid (show cf.size = 12 by rw [hcf]; rfl); have HAF := Lib.hid (show cf.all (·.oneCell') = true by rw [hcf]; simp [EV.arr, Value.oneCell']); rw [show (wEV gI e).val e = .agg cf by rw [hcf]; rfl]; clear hcf) | (refine wpList_store_at rfl 30 _ _ rfl g (k * 12) cf rfl rfl 30 (flatE P ++ R).toArray HBc.out (by rw [HSF.out]; exact sizeEv) (by rw [HSF.out, List.size_toArray, List.length_append, flatE_length, HR.out, ← HK.out]; omega) HAF.out _ (splice_ev (p := (wEV gI e, e)) HK.out HCF.out) ?_))
    have HNX := Lib.hid (HWI.out.next_lo (k := k) (gI := gI) HB1.out HK.out hkn HR.out (by rw [← HG.out]; exact HBc.out) (by rw [HEK.out]; exact HO1.out) rfl)
    rw [HEK.out, ← HG.out] at HNX
    go_roundw
    case rel => exact ⟨P ++ [(wEV gI e, e)], by rw [List.length_append, List.length_singleton, ← HK.out]; omega, by rw [List.length_append, List.length_singleton, ← HK.out]; go_num, HNX.out⟩
    case measure => simp [intOf]; omega
   ·have hknI : ¬ (k : Int) < n := by omega
    obtain ⟨u, hu⟩ : ∃ u, u = markI k := ⟨_, rfl⟩
    have HNUM := Lib.hid (fun W => (show Calls Tryz.prog 98 #[.int .i64 9, .int .i64 (k : Int)] W _ from num_any 9 k W (by omega) (by omega)))
    rw [show (1048576 * ((9 : Nat) : Int) + (k : Int) + 1) = u from hu.symm] at HNUM
    have HME := Lib.hid (show (#[.int .i8 0, .int .i8 0, .int .i64 u, .int .i64 0, .int .i64 0, .int .i64 0, .int .i64 0, .int .i64 0, .int .i64 0, .int .i32 0, .int .i32 0, .slice none 0 0] : Array Value) = (⟨none, 0⟩ : EV).arr (markEv k) by rw [hu]; rfl)
    clear hu
    go_wp2_with (first | (go_at_call 98; (with_reducible refine (HNUM.out _).mono ?_); rintro e2 w2 ⟨rfl, rfl⟩) | (refine wpList_store_at rfl 30 _ _ rfl g (k * 12) #[.int .i8 0, .int .i8 0, .int .i64 u, .int .i64 0, .int .i64 0, .int .i64 0, .int .i64 0, .int .i64 0, .int .i64 0, .int .i32 0, .int .i32 0, .slice none 0 0] rfl rfl 30 (flatE P ++ R).toArray HB.out (by kernel_rfl) (by show k * 12 + 12 ≤ _; rw [List.size_toArray, List.length_append, flatE_length, HR.out, ← HK.out]; omega) (by simp [Value.oneCell']) _ (splice_ev (p := ((⟨none, 0⟩ : EV), markEv k)) HK.out HME.out) ?_))
    have HNX := Lib.hid (HWI.out.next_hi (k := k) HK.out (by omega) hlt HR.out (by rw [← HG.out]; exact HB.out) rfl)
    rw [← HG.out] at HNX
    go_roundw
    case rel => exact ⟨P ++ [((⟨none, 0⟩ : EV), markEv k)], by rw [List.length_append, List.length_singleton, ← HK.out]; omega, by rw [List.length_append, List.length_singleton, ← HK.out]; go_num, HNX.out⟩
    case measure => simp [intOf]; omega
  ·have hkn : k = n + 64 := by omega
   have h1 : ¬ (k : Int) < n + 64 := by omega
   have HF := Lib.hid (show WideEsPost E w (.returned (.slice (some ⟨w.heap.size, 0, none⟩) n (n + 64))) wr from ⟨P, by rw [← HK.out, hkn, HEN.out], by rw [HEN.out], by rw [HEN.out]; exact HWI.out⟩)
   go_wp2
   go_ret
   exact HF.out
/-- A list of events with its marks. -/
structure WEvs (w : World) (base g : Nat) (E : List Ev) (P : List (EV × Ev)) : Prop where
 len : P.length = E.length + 64
 z : G.Blk w g 30 (flatE P).toArray
 ge : base ≤ g
 lo : ∀ i, i < E.length → ∃ gI, P.getD i zeroP = (wEV gI (E.getD i zeroEv), E.getD i zeroEv) ∧ WEv w base gI (E.getD i zeroEv)
 hi : ∀ i, E.length ≤ i → i < E.length + 64 → P.getD i zeroP = (⟨none, 0⟩, markEv i)
 ap : ∀ i j, i < E.length → j < E.length → i ≠ j → (P.getD i zeroP).1.oa ≠ (P.getD j zeroP).1.oa
theorem WeI.fin {w w' : World} {E : List Ev} {P : List (EV × Ev)} (h : WeI w w' E.length E P) (hl : P.length = E.length + 64) : WEvs w' w.heap.size w.heap.size E P := by
 obtain ⟨R, hR, hB⟩ := h.z
 have hR0 : R = [] := List.eq_nil_of_length_eq_zero (by rw [hR, hl]; omega)
 subst hR0
 rw [List.append_nil] at hB
 exact ⟨hl, hB, Nat.le_refl _, fun i hi => h.lo i (by omega) hi, fun i h1 h2 => h.hi i (by omega) h1, fun i j hi hj hn => h.ap i j (by omega) (by omega) hi hj hn⟩
theorem WEvs.below {w w' : World} {base g : Nat} {E : List Ev} {P : List (EV × Ev)} (h : WEvs w base g E P) (hb : Below w.heap.size w w') : WEvs w' base g E P :=
 ⟨h.len, h.z.below hb h.z.lt, h.ge, fun i hi => by
  obtain ⟨gI, e1, e2⟩ := h.lo i hi
  exact ⟨gI, e1, e2.below hb⟩, h.hi, h.ap⟩
theorem WEvs.cells {w : World} {base g : Nat} {E : List Ev} {P : List (EV × Ev)} (h : WEvs w base g E P) {i : Nat} (hi : i < E.length + 64) : ∀ j v, ((P.getD i zeroP).1.arr (P.getD i zeroP).2)[j]? = some v → w.cell? ⟨g, i * 12 + j, none⟩ = some v := fun j v hv => by
 have hj : j < 12 := (Array.getElem?_eq_some_iff.1 hv).1
 have h2 : (flatE P).getD (i * 12 + j) undef = (cellsE (P.getD i zeroP)).getD j undef := G.flat_getD cellsE 12 (fun _ => rfl) zeroP P i j (by rw [h.len]; exact hi) hj
 have h3 : (flatE P)[i * 12 + j]? = some v := by
  have hlt : i * 12 + j < (flatE P).length := by rw [flatE_length, h.len]; omega
  rw [List.getElem?_eq_getElem hlt]
  rw [List.getD_eq_getElem?_getD, List.getElem?_eq_getElem hlt] at h2
  simp only [Option.getD_some] at h2
  rw [h2, List.getD_eq_getElem?_getD]
  unfold cellsE
  rw [Array.getElem?_toList, hv]
  rfl
 rw [h.z.cell, List.getElem?_toArray]
 exact h3
theorem WEvs.run {w : World} {base g : Nat} {E : List Ev} {P : List (EV × Ev)} (h : WEvs w base g E P) {i : Nat} (hi : i < E.length + 64) : (loadVar 30 ⟨g, i * 12, none⟩).run Tryz.prog w = .ok (.agg ((P.getD i zeroP).1.arr (P.getD i zeroP).2)) w := by
 obtain ⟨fs, hfs⟩ := undEv
 exact run_loadVar_at w g _ _ _ _ (h.cells hi) hfs rfl sizeEv
theorem WEvs.rd {w : World} {base g : Nat} {E : List Ev} {P : List (EV × Ev)} (h : WEvs w base g E P) : RdEvs w (some ⟨g, 0, none⟩) E.length (P.take E.length) ∧ (P.take E.length).map Prod.snd = E := by
 have hl : (P.take E.length).length = E.length := by rw [List.length_take, h.len]; omega
 have hg : ∀ i, i < E.length → (P.take E.length).getD i zeroP = P.getD i zeroP := fun i hi => by
  rw [List.getD_eq_getElem?_getD, List.getElem?_take, if_pos hi, List.getD_eq_getElem?_getD]
 refine ⟨⟨⟨by rw [flatE_length, hl], fun h0 => ⟨g, 0, rfl, h.z.lt, fun j hj => ?_⟩⟩, fun i hi => ?_⟩, ?_⟩
 ·rw [flatE_length, hl] at hj
  have e1 : flatE (P.take E.length) = (flatE P).take (E.length * 12) := by
   have e2 : flatE P = flatE (P.take E.length) ++ flatE (P.drop E.length) := by
    unfold flatE
    rw [← List.flatMap_append, List.take_append_drop]
   exact (by rw [List.take_append_of_le_length (by rw [flatE_length, hl]; exact Nat.le_refl _), List.take_of_length_le (by rw [flatE_length, hl]; exact Nat.le_refl _)] : (flatE (P.take E.length) ++ flatE (P.drop E.length)).take (E.length * 12) = flatE (P.take E.length)).symm.trans (by rw [← e2])
  have e3 : j < (flatE P).length := by rw [flatE_length, h.len]; omega
  rw [h.z.cell, List.getElem?_toArray, Nat.zero_add, e1, List.getD_eq_getElem?_getD, List.getElem?_take, if_pos hj, List.getElem?_eq_getElem e3]
  rfl
 ·rw [hg i hi]
  obtain ⟨gI, e1, e2⟩ := h.lo i hi
  rw [e1]
  exact e2.rd
 ·refine List.ext_getElem (by rw [List.length_map, hl]) fun i h1 h2 => ?_
  rw [List.length_map, hl] at h1
  obtain ⟨gI, e1, e2⟩ := h.lo i h1
  have e3 := getD_snd (P.take E.length) i
  rw [hg i h1, e1] at e3
  rw [List.getD_eq_getElem?_getD, List.getElem?_eq_getElem (by rw [List.length_map, hl]; exact h1), List.getD_eq_getElem?_getD, List.getElem?_eq_getElem h2] at e3
  exact e3
set_option maxRecDepth 100000 in
set_option maxHeartbeats 8000000 in
theorem spareEvents_any (g base n : Nat) (E : List Ev) (P : List (EV × Ev)) (w : World) (h : WEvs w base g E P) (hn : E.length = n) (hn4 : n ≤ 33554432) (ho : ∀ k, k < n → (E.getD k zeroEv).order.length ≤ 33554432) :
 Calls Tryz.prog 40 #[.slice (some ⟨g, 0, none⟩) n (n + 64)] w (BoolPost true w) := by
 have HW := Lib.hid h
 have HN := Lib.hid hn
 have HO := Lib.hid ho
 have hgl := h.z.lt
 clear h hn ho
 go_enter Tryz.func40, Tryz.ntmps40
 go_wp2
 go_loopw [4] (fun i wr => ∃ k : Nat, n ≤ k ∧ k ≤ n + 64 ∧ i = .int .i64 k ∧ Below w.heap.size w wr) (fun i _ => n + 64 - (intOf i).toNat)
 case atStart => exact ⟨n, Nat.le_refl _, by omega, rfl, Below.refl _ _⟩
 case round =>
  obtain ⟨k, hk0, hk, rfl, hb⟩ := hrel
  have HB := Lib.hid hb
  have hs := hb.size
  clear hb
  by_cases hlt : k < n + 64
  ·have h0 : (k : Int) < n + 64 := by omega
   have h1 : (0 : Int) ≤ k := by omega
   have HRN := Lib.hid ((HW.out.below HB.out).run (i := k) (by rw [HN.out]; exact hlt))
   rw [HW.out.hi k (by rw [HN.out]; exact hk0) (by rw [HN.out]; exact hlt)] at HRN
   obtain ⟨u, hu⟩ : ∃ u, u = markI k := ⟨_, rfl⟩
   have HNUM := Lib.hid (fun W => (show Calls Tryz.prog 98 #[.int .i64 9, .int .i64 (k : Int)] W _ from num_still 9 k W (by omega) (by omega)))
   rw [show (1048576 * ((9 : Nat) : Int) + (k : Int) + 1) = u from hu.symm] at HNUM
   obtain ⟨ce, hce⟩ : ∃ c, c = (⟨none, 0⟩ : EV).arr (markEv k) := ⟨_, rfl⟩
   simp only [← hce] at HRN
   have HSE := Lib.hid (show ce.size = 12 by rw [hce]; rfl)
   have HON := Lib.hid (show ce.all (·.oneCell') = true by rw [hce]; simp [EV.arr, Value.oneCell'])
   have HC2 := Lib.hid (show ce[2]? = some (.int .i64 u) by rw [hce, hu]; rfl)
   have HC11 := Lib.hid (show ce[11]? = some (.slice none 0 0) by rw [hce]; rfl)
   clear hu hce
   go_upto_region 6 with (first | (refine wpList_load_run (by rfl) 30 _ rfl g (k * 12) rfl ce HRN.out ?_) | (refine wpList_store_row rfl 30 _ _ rfl _ ce rfl rfl 30 _ (heap_alloc_new _ _) (by rw [HSE.out]; exact sizeEv) (by rw [HSE.out]; rfl) HON.out ?_))
   have hkx : G.Blk ((wr.alloc (.cells zeroE 30)).setRow wr.heap.size ce) wr.heap.size 30 ce := setRow_heap _ _ _ _ _ _ (heap_alloc_new _ _)
   have HBX := Lib.hid (show Below wr.heap.size wr ((wr.alloc (.cells zeroE 30)).setRow wr.heap.size ce) from below_setRow (G.bl_alloc (Below.refl _ _) _) (Nat.le_refl _) _)
   obtain ⟨wX, hwX⟩ : ∃ q, q = (wr.alloc (.cells zeroE 30)).setRow wr.heap.size ce := ⟨_, rfl⟩
   obtain ⟨gx, hgx⟩ : ∃ q, q = wr.heap.size := ⟨_, rfl⟩
   rw [← hwX] at hkx HBX
   rw [← hgx] at hkx
   unfold zeroE at hwX
   rw [← hwX, ← hgx]
   have c2 := (hkx.cell 2).trans HC2.out
   have c11 := (hkx.cell 11).trans HC11.out
   have lx := hkx.lt
   have huu : (u == u) = true := by simp
   clear hwX hgx hkx
   go_quiet ((go_at_call 98; exact Calls.quiet_of_same (HNUM.out _)))
   go_wp2_with fail
   go_roundw
   case rel => exact ⟨k + 1, by omega, by omega, by go_num, G.bl_drewN (G.bl_trans HB.out HBX.out) _⟩
   case measure => simp [intOf]; omega
  ·have h1 : ¬ (k : Int) < n + 64 := by omega
   go_wp2
   go_loopw [6] (fun i wr => ∃ k : Nat, k ≤ n ∧ i = .int .i64 k ∧ Below w.heap.size w wr) (fun i _ => n - (intOf i).toNat)
   case atStart => exact ⟨0, Nat.zero_le _, rfl, HB.out⟩
   case round =>
    obtain ⟨j, hj, rfl, hb⟩ := hrel
    have HB2 := Lib.hid hb
    clear hb
    have hj0 : (0 : Int) ≤ j := by omega
    by_cases hjn : j < n
    ·have hjI : (j : Int) < n := by omega
     have HRN := Lib.hid ((HW.out.below HB2.out).run (i := j) (by rw [HN.out]; omega))
     obtain ⟨gI, e1, e2⟩ := (HW.out.below HB2.out).lo j (by rw [HN.out]; exact hjn)
     rw [e1] at HRN
     obtain ⟨e, he⟩ : ∃ e, e = E.getD j zeroEv := ⟨_, rfl⟩
     have HLE := Lib.hid (show e.order.length ≤ 33554432 by rw [he]; exact HO.out j hjn)
     rw [← he] at HRN e2
     simp only at HRN
     have HSP := Lib.hid (spareEvent_any gI base e _ e2 HLE.out)
     obtain ⟨ce, hce⟩ : ∃ c, c = (wEV gI e).arr e := ⟨_, rfl⟩
     rw [show (wEV gI e).val e = .agg ce by rw [hce]; rfl] at HSP
     rw [← hce] at HRN
     clear he hce e1 e2
     go_wp2_with (first | (refine wpList_load_run (by rfl) 30 _ rfl g (j * 12) rfl ce HRN.out ?_) | ((with_reducible refine (HSP.out).mono ?_); rintro e5 w5 ⟨rfl, hb5⟩; have HB5 := Lib.hid hb5; clear hb5))
     go_roundw
     case rel => exact ⟨j + 1, by omega, by go_num, G.bl_trans HB2.out HB5.out⟩
     case measure => simp [intOf]; omega
    ·have hjI : ¬ (j : Int) < n := by omega
     go_wp2_with fail
     go_ret
     exact ⟨rfl, HB2.out⟩
end Go.Proofs.YtofgmijmhpmabaaGreatDoor.D

/- The contract of state.Copy: a state of the call's own. -/
import Derived.Test.YtmhklnjmeoeanaaGreatDoorDMem
import Derived.Laws.AppendOwn
import Derived.Laws.AppendOwnNone
import Derived.Laws.OwnMore
import Derived.Test.YtmhklnjmeoeanaaGreatDoorDTurn
import Derived.Test.YtmhklnjmeoeanaaGreatDoorDCards
import Derived.Test.YtmhklnjmeoeanaaGreatDoorDShuf
import Derived.Laws.EntriesVeiled
import Derived.Laws.Tables
import Derived.Laws.Rows
import Derived.Laws.CopyOwn
namespace Go.Proofs.YtmhklnjmeoeanaaGreatDoor.G
open Go Go.RowKit
set_option linter.unusedVariables false
set_option linter.unusedSimpArgs false
section
variable {P : Program} {w : World}
theorem run_append_void (base : Nat) (t ty e : TypeId) (i : TypeInfo) (size : Nat) (ht : P.underlying t = some (.slice e)) (hi : P.info? e = some i)
    (v : Value) (n : Nat) (xs : List Value) (hown : w.ownsRow base e size v n xs) (c : Nat) :
    (Builtin.append_ #[t, t] ty #[v, .slice none 0 c]).run P w = .ok v w := by
  rcases hown.2 with ⟨rfl, rfl⟩ | ⟨g, cap, cur, rfl, _, _, hnc, _⟩
  · simp [Builtin.append_, run_underlying ht, sizeOf, typeInfo, hi, Builtin.lenOf, Builtin.firstCells]
  · simp [Builtin.append_, run_underlying ht, sizeOf, typeInfo, hi, Builtin.lenOf, Builtin.firstCells, hnc, storeCells]
theorem run_append_rd (base : Nat) (t ty e : TypeId) (i : TypeInfo) (z : Value) (size bytes : Nat) (ht : P.underlying t = some (.slice e)) (hi : P.info? e = some i) (hz : i.zero = some z)
    (hsize : i.size = size) (hby : i.bytes = bytes) (hzs : z.cells.size = size) (hsz : 0 < size)
    (v : Value) (n : Nat) (xs : List Value) (hown : w.ownsRow base e size v n xs)
    (A : Option Addr) (m c : Nat) (news : List Value) (hr : RdS w A size m news) (h1 : ∀ u ∈ news, u.oneCell' = true)
    (h63 : n + m ≤ maxLen) (hbytes : (n + m) * bytes ≤ 140737488355328) (hbase : base ≤ w.heap.size) :
    ∃ v' w', (Builtin.append_ #[t, t] ty #[v, .slice A m c]).run P w = .ok v' w' ∧ w'.ownsRow base e size v' (n + m) (xs ++ news) ∧ w.grownBy w' v.ownBlock := by
  cases A with
  | none =>
    have hm : m = 0 := by
      rcases Nat.eq_zero_or_pos m with h | h
      · exact h
      · obtain ⟨b, off, e1, _⟩ := hr.2 h
        cases e1
    subst hm
    have hn : news = [] := List.eq_nil_of_length_eq_zero (by simpa using hr.1)
    subst hn
    exact ⟨v, w, run_append_void base t ty e i size ht hi v n xs hown c, by simpa using hown, ⟨rfl, rfl, rfl, Nat.le_refl _, fun _ _ _ => rfl⟩⟩
  | some ad =>
    obtain ⟨v', w', h2, h3, h4, _⟩ := run_append_own (P := P) (w := w) base t ty e i z size bytes ht hi hz hsize hby hzs hsz v n xs hown ad m c news hr.1 (fun j u hu => by
      have hj := (List.getElem?_eq_some_iff.1 hu).1
      have hpos : 0 < m := by
        rcases Nat.eq_zero_or_pos m with h | h
        · rw [hr.1, h] at hj
          omega
        · exact h
      obtain ⟨b, off, e1, hv⟩ := hr.2 hpos
      obtain rfl := Option.some.inj e1
      rw [Addr.add_lit, hv.2 j hj, List.getD_eq_getElem?_getD, hu]
      rfl) h1 h63 hbytes hbase
    exact ⟨v', w', h2, h3, h4⟩
theorem wpList_append_rd {ops : Array Oper} {rest : List Oper} {o : Oper} {a : Act} {Q : Exit → Act → World → Prop} (hgd : o.guard = none) (s x : Operand) (t : TypeId)
    (ho : o.op = .call { callee := .builtin .append, args := #[s, x], argTypes := #[t, t] })
    (base : Nat) (e : TypeId) (i : TypeInfo) (z : Value) (size bytes : Nat) (ht : P.underlying t = some (.slice e)) (hi : P.info? e = some i) (hz : i.zero = some z)
    (hsize : i.size = size) (hby : i.bytes = bytes) (hzs : z.cells.size = size) (hsz : 0 < size)
    (v : Value) (n : Nat) (xs : List Value) (hs : a.eval s = v) (hown : w.ownsRow base e size v n xs)
    (A : Option Addr) (m c : Nat) (news : List Value) (hx : a.eval x = .slice A m c) (hr : RdS w A size m news) (h1 : ∀ u ∈ news, u.oneCell' = true)
    (h63 : n + m ≤ maxLen) (hbytes : (n + m) * bytes ≤ 140737488355328) (hbase : base ≤ w.heap.size)
    (h : ∀ v' w', w'.ownsRow base e size v' (n + m) (xs ++ news) → w.grownBy w' v.ownBlock → wpList P ops Q rest (a.put o.dst v') w') : wpList P ops Q (o :: rest) a w := by
  refine wpList_plain hgd fun K hK => ?_
  obtain ⟨v', w', hr, h2, h3⟩ := run_append_rd (P := P) (w := w) base t o.type e i z size bytes ht hi hz hsize hby hzs hsz v n xs hown A m c news hr h1 h63 hbytes hbase
  unfold Oper.wp execOp
  simp only [ho, resolve, invoke, builtin, Sem.run_bind, Sem.run_pure, Result.andThen_ok, List.map_toArray, List.map_cons, List.map_nil, hs, hx, hr]
  exact hK _ _ (h v' w' h2 h3)
/-- A copy that the call owns, out of nothing. -/
theorem wpList_copy_rd {ops : Array Oper} {rest : List Oper} {o : Oper} {a : Act} {Q : Exit → Act → World → Prop} (hgd : o.guard = none) (s x : Operand) (t : TypeId)
    (ho : o.op = .call { callee := .builtin .append, args := #[s, x], argTypes := #[t, t] })
    (e : TypeId) (i : TypeInfo) (z : Value) (size bytes : Nat) (ht : P.underlying t = some (.slice e)) (hi : P.info? e = some i) (hz : i.zero = some z)
    (hsize : i.size = size) (hby : i.bytes = bytes) (hzs : z.cells.size = size) (hsz : 0 < size) (hs : a.eval s = .slice none 0 0)
    (A : Option Addr) (m c : Nat) (news : List Value) (hx : a.eval x = .slice A m c) (hr : RdS w A size m news) (h1 : ∀ u ∈ news, u.oneCell' = true)
    (h63 : m ≤ maxLen) (hbytes : m * bytes ≤ 140737488355328)
    (h : ∀ ad k w', w'.ownsRow w.heap.size e size (.slice ad m k) m news → Below w.heap.size w w' → wpList P ops Q rest (a.put o.dst (.slice ad m k)) w') : wpList P ops Q (o :: rest) a w := by
  refine wpList_append_rd hgd s x t ho w.heap.size e i z size bytes ht hi hz hsize hby hzs hsz (.slice none 0 0) 0 [] hs (World.ownsRow_nil _ _ _ _) A m c news hx hr h1 (by omega) (by rw [Nat.zero_add]; exact hbytes) (Nat.le_refl _) ?_
  intro v' w' hown hg
  rw [Nat.zero_add, List.nil_append] at hown
  obtain ⟨ad, k, rfl⟩ := own_shape hown
  exact h ad k w' hown ((Below.refl _ _).grown hg (Nat.le_refl _) (fun _ h => by cases h))
end
end Go.Proofs.YtmhklnjmeoeanaaGreatDoor.G
namespace Go.Proofs.YtmhklnjmeoeanaaGreatDoor.D
open Go Go.RowKit
set_option linter.unusedVariables false
set_option linter.unusedSimpArgs false
theorem flatP_one (l : List Pl) : ∀ u ∈ flatP l, u.oneCell' = true := by
  intro u hu
  obtain ⟨p, _, hp⟩ := List.mem_flatMap.1 hu
  simp only [Pl.cells, List.mem_cons, List.mem_nil_iff, or_false] at hp
  rcases hp with rfl | rfl | rfl <;> rfl
theorem flatC_one (l : List Cd) : ∀ u ∈ flatC l, u.oneCell' = true := by
  intro u hu
  obtain ⟨p, _, hp⟩ := List.mem_flatMap.1 hu
  simp only [Cd.cells, List.mem_cons, List.mem_nil_iff, or_false] at hp
  rcases hp with rfl | rfl | rfl | rfl | rfl | rfl <;> rfl
/-- Rows that are made one by one, laid into a list of them. -/
structure CpI (w0 wr : World) (gz k q : Nat) (zs : List (List Int)) (rows : List Value) : Prop where
  bl : Below w0.heap.size w0 wr
  z : wr.ownsRow w0.heap.size 35 1 (.slice (some ⟨gz, 0, none⟩) k k) k rows
  each : ∀ j, j < q → wr.ownsRow w0.heap.size 3 1 (rows.getD j undef) (zs.getD j []).length (i64s (zs.getD j []))
  apart : ∀ i j, i < q → j < q → i ≠ j → (rows.getD i undef).ownBlock = none ∨ (rows.getD i undef).ownBlock ≠ (rows.getD j undef).ownBlock
theorem CpI.next {w0 wr w1 : World} {gz k q : Nat} {zs : List (List Int)} {rows : List Value} {v : Value} (h : CpI w0 wr gz k q zs rows) (hq : q < k) (hb : Below wr.heap.size wr w1)
    (hv : w1.ownsRow wr.heap.size 3 1 v (zs.getD q []).length (i64s (zs.getD q []))) : CpI w0 (w1.setCell ⟨gz, q, none⟩ v) gz k (q + 1) zs (rows.set q v) := by
  have hz := G.own_below h.z hb
  have hst := hz.stored q v
  have hlen : rows.length = k := by have := h.z.1; omega
  have hgz := (hz.lt gz rfl).1
  have hsz := h.bl.size
  have hgz2 := (h.z.lt gz rfl).2
  have hg : w1.grownBy (w1.setCell ⟨gz, q, none⟩ v) (Value.slice (some ⟨gz, 0, none⟩) k k).ownBlock := hst.2
  have hnew : ∀ b, v.ownBlock = some b → wr.heap.size ≤ b := fun b hb => (hv.lt b hb).1
  have hold : ∀ j, j < q → ∀ b, (rows.getD j undef).ownBlock = some b → b < wr.heap.size := fun j hj b hb => ((h.each j hj).lt b hb).2
  refine ⟨G.bl_set (G.bl_trans h.bl hb) hgz _, hst.1, fun j hj => ?_, fun i j hi hj hij => ?_⟩
  · by_cases e : q = j
    · subst e
      rw [getD_set_eq (by omega)]
      exact own_far (G.own_ge hv hsz) hz hg (by decide)
    · rw [getD_set_ne e]
      exact own_far (G.own_below (h.each j (by omega)) hb) hz hg (by decide)
  · have key : ∀ j, j < q → (v.ownBlock = none ∨ v.ownBlock ≠ (rows.getD j undef).ownBlock) ∧ ((rows.getD j undef).ownBlock = none ∨ (rows.getD j undef).ownBlock ≠ v.ownBlock) := by
      intro j hj
      cases hvb : v.ownBlock with
      | none => exact ⟨.inl rfl, by cases (rows.getD j undef).ownBlock <;> simp⟩
      | some b =>
        have h1 := hnew b hvb
        cases hrb : (rows.getD j undef).ownBlock with
        | none => exact ⟨.inr (by simp), .inl rfl⟩
        | some c =>
          have h2 := hold j hj c hrb
          exact ⟨.inr (by simp; omega), .inr (by simp; omega)⟩
    by_cases e : q = i
    · subst e
      rw [getD_set_eq (by omega), getD_set_ne hij]
      exact (key j (by omega)).1
    · by_cases e2 : q = j
      · subst e2
        rw [getD_set_eq (by omega), getD_set_ne e]
        exact (key i (by omega)).2
      · rw [getD_set_ne e, getD_set_ne e2]
        exact h.apart i j (by omega) (by omega) hij
theorem infoRow : (Tryz.prog.info? 35).map (fun i => (i.zero, i.size, i.bytes)) = some (some (.slice none 0 0), 1, 24) := by kernel_rfl
def StPost (s : St) (w : World) (e : Ending) (w' : World) : Prop := ∃ x' : SV, e = .returned (x'.val s) ∧ OwnSt w' w.heap.size x' s ∧ Below w.heap.size w w'
theorem run_st {w : World} {g : Nat} {cs : Array Value} (hg : w.heap[g]? = some (.cells cs 27 (0, 0))) (hs : cs.size = 7) : (loadVar 27 ⟨g, 0, none⟩).run Tryz.prog w = .ok (.agg cs) w := by
  have hi : (Tryz.prog.info? 27).map (·.size) = some 7 := by kernel_rfl
  have hu : (Tryz.prog.underlying 27).map (fun d => match d with | .struct _ => true | _ => false) = some true := by kernel_rfl
  obtain ⟨fs, hfs⟩ : ∃ fs, Tryz.prog.underlying 27 = some (.struct fs) := by
    cases hx : Tryz.prog.underlying 27 with
    | none => rw [hx] at hu; simp at hu
    | some d =>
      rw [hx] at hu
      cases d <;> simp at hu
      exact ⟨_, rfl⟩
  exact run_loadVar_row (P := Tryz.prog) w g 27 27 cs (0, 0) (.struct fs) hg hfs rfl (by rw [hs]; exact hi)
theorem st_result {fn : Func} {p : Tmp} (h : fn.results = #[.cell p 27]) (tmps : Array Value) (w : World) (g : Nat) (cs : Array Value) (hp : tmps.getD p undef = .pointer (some ⟨g, 0, none⟩)) (hg : w.heap[g]? = some (.cells cs 27 (0, 0))) (hs : cs.size = 7) :
    (results fn tmps).run Tryz.prog w = .ok (.agg cs) w := by
  have hp' : tmps[p]?.getD undef = .pointer (some ⟨g, 0, none⟩) := by simpa using hp
  simp [results, h, hp', asAddr, run_st hg hs]
theorem two_new (w : World) (t : TypeId) (a b : Array Value) : G.Blk ((w.alloc (.cells a t)).alloc (.cells b t)) w.heap.size t a ∧ G.Blk ((w.alloc (.cells a t)).alloc (.cells b t)) (w.heap.size + 1) t b ∧ Below w.heap.size w ((w.alloc (.cells a t)).alloc (.cells b t)) :=
  ⟨heap_alloc2_old w (.cells a t) (.cells b t), heap_alloc2_new w (.cells a t) (.cells b t), G.bl_alloc (G.bl_alloc (Below.refl _ _) _) _⟩
theorem only_put {w : World} {g i : Nat} {t : TypeId} {cs : Array Value} (h : G.Blk w g t cs) (u : Value) : G.Only t 0 w (w.setCell ⟨g, i, none⟩ u) := (G.Only.refl _ _ _).set (p := ⟨g, i, none⟩) (Nat.zero_le _) (show w.heap[g]? = some (.cells cs t (0, 0)) from h) u
/-- Another block of the same type stays too. -/
theorem blk_put_ne {w : World} {g g2 i : Nat} {t : TypeId} {cs : Array Value} {u : Value} (h : G.Blk w g t cs) (hn : g ≠ g2) : G.Blk (w.setCell ⟨g2, i, none⟩ u) g t cs := h.same (Below.heap_setCell w ⟨g2, i, none⟩ u g hn)
theorem only_row {w : World} {g : Nat} {t : TypeId} {cs cs2 : Array Value} (h : G.Blk w g t cs) : G.Only t 0 w (w.setRow g cs2) := by
  refine ⟨below_setRow (Below.refl _ _) (Nat.zero_le _) _, fun k cs' t' fr hk ht => ?_⟩
  by_cases hkg : k = g
  · subst hkg
    unfold G.Blk at h
    rw [h] at hk
    simp only [Option.some.injEq, Obj.cells.injEq] at hk
    exact absurd hk.2.1.symm ht
  · exact (setRow_other _ _ _ _ hkg).trans hk
set_option maxRecDepth 100000 in
set_option maxHeartbeats 4000000 in
theorem copy_any (x : SV) (s : St) (w : World) (h : RdSt w x s) (hz : Sz s) : Calls Tryz.prog 73 #[x.val s] w (StPost s w) := by
  obtain ⟨i0, hi0, hz00, hz01, hz02⟩ := info_parts infoPl
  obtain ⟨i1, hi1, hz10, hz11, hz12⟩ := info_parts infoCd
  obtain ⟨i2, hi2, hz20, hz21, hz22⟩ := info_parts infoInt
  obtain ⟨i3, hi3, hz30, hz31, hz32⟩ := info_parts infoRow
  have HR := Lib.hid h
  have hz1 := hz.p
  have hz2 := hz.c
  have hz3 := hz.z
  have HZ := Lib.hid hz.r
  obtain ⟨pa, pc, ca, cc, za, zc, rows⟩ := x
  obtain ⟨players, cards, zones, turn, whose, fin, win⟩ := s
  unfold SV.val SV.arr
  simp only at hz1 hz2 hz3 HZ ⊢
  obtain ⟨n, hn⟩ : ∃ n, n = players.length := ⟨_, rfl⟩
  obtain ⟨m, hm⟩ : ∃ m, m = cards.length := ⟨_, rfl⟩
  obtain ⟨k, hk⟩ : ∃ k, k = zones.length := ⟨_, rfl⟩
  rw [← hn, ← hm, ← hk]
  rw [← hn] at hz1
  rw [← hm] at hz2
  rw [← hk] at hz3
  have HN := Lib.hid hn
  have HM := Lib.hid hm
  have HK := Lib.hid hk
  clear h hz hn hm hk
  go_enter Tryz.func73, Tryz.ntmps73
  go_upto_region 1 with (fail)
  have H0 := two_new w 27 #[.slice pa n pc, .slice ca m cc, .slice za k zc, .int .i32 turn, .int .i64 whose, .int .i8 fin, .int .i64 win] #[.slice none 0 0, .slice none 0 0, .slice none 0 0, .int .i32 0, .int .i64 0, .int .i8 0, .int .i64 0]
  obtain ⟨w0, hw0⟩ : ∃ w0, w0 = (w.alloc (.cells #[.slice pa n pc, .slice ca m cc, .slice za k zc, .int .i32 turn, .int .i64 whose, .int .i8 fin, .int .i64 win] 27)).alloc (.cells #[.slice none 0 0, .slice none 0 0, .slice none 0 0, .int .i32 0, .int .i64 0, .int .i8 0, .int .i64 0] 27) := ⟨_, rfl⟩
  rw [← hw0] at H0 ⊢
  clear hw0
  obtain ⟨hb0, hb0', hbl0⟩ := H0
  have HBL0 := Lib.hid hbl0
  obtain ⟨g, hg⟩ : ∃ g, g = w.heap.size := ⟨_, rfl⟩
  have HG := Lib.hid hg
  rw [← hg] at hb0 hb0' ⊢
  have HB0 := Lib.hid hb0
  have HB0' := Lib.hid hb0'
  have c00 := hb0.cell 0
  have l0 := hb0.lt
  have HP0 := Lib.hid (show G.RdS w0 pa 3 n (flatP players) by have := (HR.out.below hbl0).p; rw [← HN.out] at this; exact this)
  clear hb0 hb0' hbl0 hg
  go_upto_region 2 with ((refine G.wpList_copy_rd rfl _ _ 22 rfl 44 i0 _ 3 12 Tryz.underlying22 hi0 hz00 hz01 hz02 rfl (by decide) rfl pa n pc (flatP players) rfl HP0.out (flatP_one _) (by unfold maxLen; omega) (by omega) ?_; intro ad1 k1 w1 ho1 hb1; have HO1 := Lib.hid ho1; have HBW1 := Lib.hid hb1; have hB1 := HB0.out.below hb1 HB0.out.lt; have c10 := hB1.cell 0; have f10 := hB1.frozen 0; have l1 := hB1.lt; clear ho1 hb1 hB1 c00 l0))
  have HBK2 := Lib.hid (HB0.out.below HBW1.out HB0.out.lt)
  have HO2 := Lib.hid (only_put (i := 0) HBK2.out (.slice ad1 n k1))
  have HBL2 := Lib.hid (show Below g w (w1.setCell ⟨g, 0, none⟩ (.slice ad1 n k1)) by rw [HG.out]; exact G.bl_set (G.bl_trans HBL0.out HBW1.out) (Nat.le_refl _) _)
  have HB2 := Lib.hid (HBK2.out.put 0 (.slice ad1 n k1))
  have HB2' := Lib.hid (blk_put_ne (i := 0) (u := .slice ad1 n k1) (HB0'.out.below HBW1.out HB0'.out.lt) (show g + 1 ≠ g by omega))
  have HP2 := Lib.hid (HO2.out.own (G.own_ge HO1.out (show g ≤ _ by have := HBL0.out.size; rw [HG.out]; exact this)) (by decide))
  obtain ⟨w2, hw2⟩ : ∃ w2, w2 = w1.setCell ⟨g, 0, none⟩ (.slice ad1 n k1) := ⟨_, rfl⟩
  rw [← hw2] at HB2 HB2' HBL2 HP2 ⊢
  clear hw2 HO2 HBK2 c10 f10 l1 HBW1 HO1 HP0 HB0 HB0'
  simp only [List.setIfInBounds_toArray, List.set_cons_zero, List.set_cons_succ] at HB2
  have HC2 := Lib.hid (show G.RdS w2 ca 6 m (flatC cards) by have := (HR.out.below (by rw [← HG.out]; exact HBL2.out)).c; rw [← HM.out] at this; exact this)
  have c21 := HB2.out.cell 1
  have l2 := HB2.out.lt
  go_upto_region 3 with ((refine G.wpList_copy_rd rfl _ _ 23 rfl 39 i1 _ 6 32 Tryz.underlying23 hi1 hz10 hz11 hz12 rfl (by decide) rfl ca m cc (flatC cards) rfl HC2.out (flatC_one _) (by unfold maxLen; omega) (by omega) ?_; intro ad3 k3 w3 ho3 hb3; have HO3 := Lib.hid ho3; have HBW3 := Lib.hid hb3; have hB3 := HB2.out.below hb3 HB2.out.lt; have c31 := hB3.cell 1; have f31 := hB3.frozen 1; have l3 := hB3.lt; clear ho3 hb3 hB3 c21 l2))
  have HBK4 := Lib.hid (HB2.out.below HBW3.out HB2.out.lt)
  have HO4 := Lib.hid (only_put (i := 1) HBK4.out (.slice ad3 m k3))
  have HBL4 := Lib.hid (show Below g w (w3.setCell ⟨g, 1, none⟩ (.slice ad3 m k3)) from (HBL2.out.trans (HBW3.out.mono (by have := HBL2.out.size; have := HG.out; have := HB2.out.lt; omega))).setCell (Nat.le_refl _) _)
  have HB4 := Lib.hid (HBK4.out.put 1 (.slice ad3 m k3))
  have HB4' := Lib.hid (blk_put_ne (i := 1) (u := .slice ad3 m k3) (HB2'.out.below HBW3.out HB2'.out.lt) (show g + 1 ≠ g by omega))
  have HP4 := Lib.hid (HO4.out.own (G.own_below HP2.out HBW3.out) (by decide))
  have HC4 := Lib.hid (HO4.out.own (G.own_ge HO3.out (show g ≤ _ by have := HB2.out.lt; omega)) (by decide))
  obtain ⟨w4, hw4⟩ : ∃ w4, w4 = w3.setCell ⟨g, 1, none⟩ (.slice ad3 m k3) := ⟨_, rfl⟩
  rw [← hw4] at HB4 HB4' HBL4 HP4 HC4 ⊢
  clear hw4 HO4 HBK4 c31 f31 l3 HBW3 HO3 HP2 HB2 HB2' HC2 HBL2
  simp only [List.setIfInBounds_toArray, List.set_cons_zero, List.set_cons_succ] at HB4
  have c42 := HB4.out.cell 2
  have l4 := HB4.out.lt
  go_upto_region 4 with (refine wpList_make_full _ rfl _ _ 24 rfl w4.heap.size 35 i3 _ 1 Tryz.underlying24 hi3 hz30 hz31 .i64 .i64 _ _ k rfl rfl rfl rfl (by rw [hz32]; omega) (by unfold maxLen; omega) (Nat.le_refl _) ?_; intro w5 ho5 hg5)
  have HI0 := Lib.hid (show CpI w4 w5 w4.heap.size k 0 zones _ from ⟨(Below.refl _ _).grown hg5 (Nat.le_refl _) (by simp), ho5, fun j hj => by omega, fun i j hi => by omega⟩)
  have HBW4 := Lib.hid (HI0.out.bl)
  have c52 := (HB4.out.below HBW4.out HB4.out.lt).cell 2
  have l5 := (HB4.out.below HBW4.out HB4.out.lt).lt
  obtain ⟨gz, hgz⟩ : ∃ gz, gz = w4.heap.size := ⟨_, rfl⟩
  rw [← hgz] at HI0 ⊢
  have HGZ := Lib.hid hgz
  clear ho5 hg5 hgz c42 l4
  go_wp2_with fail
  clear c52 l5
  go_loopw [21] (fun i wr => ∃ (q : Nat) (rs : List Value), q ≤ k ∧ i = .int .i64 q ∧ CpI w4 wr gz k q zones rs) (fun i _ => k - (intOf i).toNat)
  case atStart => exact ⟨0, _, Nat.zero_le _, rfl, HI0.out⟩
  case round =>
    obtain ⟨q, rs, hq, rfl, hI⟩ := hrel
    have HI := Lib.hid hI
    have hq0 : (0 : Int) ≤ q := by omega
    clear hI
    by_cases hlt : q < k
    · have hqI : (q : Int) < k := by omega
      have HBW := Lib.hid (show Below w.heap.size w wr by rw [← HG.out]; exact HBL4.out.trans (HI.out.bl.mono (by have := HB4.out.lt; omega)))
      obtain ⟨bz, oz, hza, hcr⟩ := rows_at (i := q) (HR.out.z.below HBW.out) (by rw [← HK.out]; exact hlt)
      simp only at hza
      subst hza
      obtain ⟨ra, rk, hrv, hrr⟩ := HR.out.rows q (by rw [← HK.out]; exact hlt)
      simp only at hrv hcr
      rw [hrv] at hcr
      have HRR := Lib.hid (hrr.below HBW.out)
      have hl := HZ.out q
      have hbs := World.block_lt_of_cell? _ _ hcr
      obtain ⟨nz, hnz⟩ : ∃ nz, nz = (zones.getD q []).length := ⟨_, rfl⟩
      have HNZ := Lib.hid hnz
      rw [← hnz] at hcr hl
      clear hrv hrr hnz
      go_wp2_with ((refine G.wpList_copy_rd rfl _ _ 35 rfl 3 i2 _ 1 8 Tryz.underlying35 hi2 hz20 hz21 hz22 rfl (by decide) rfl ra nz rk (i64s (zones.getD q [])) rfl (by rw [HNZ.out]; exact HRR.out) (i64s_one _) (by unfold maxLen; omega) (by omega) ?_; intro ad7 k7 w7 ho7 hb7; have HN7 := Lib.hid (HI.out.next hlt hb7 (own_n ho7 HNZ.out)); have hz7 := G.own_below HI.out.z hb7; have hc7 := hz7.frozenAt q; have hs7 := G.own_some hz7 q (by omega); obtain ⟨y7, hy7⟩ := hs7; clear hz7 ho7 hb7))
      go_roundw
      case rel => exact ⟨q + 1, _, by omega, by go_num, HN7.out⟩
      case measure => simp [intOf]; omega
    · obtain rfl : k = q := by omega
      have hqI : ¬ (k : Int) < k := by omega
      have hB := HB4.out.below HI.out.bl HB4.out.lt
      have HB' := Lib.hid (HB4'.out.below HI.out.bl HB4'.out.lt)
      have HB := Lib.hid hB
      have c2 := hB.cell 2
      have f2 := hB.frozen 2
      have l2 := hB.lt
      go_upto_region 10 with (fail)
      have HF := Lib.hid (only_put (i := 2) HB.out (.slice (some ⟨gz, 0, none⟩) k k))
      have HB6 := Lib.hid (HB.out.put 2 (.slice (some ⟨gz, 0, none⟩) k k))
      have HB6' := Lib.hid (blk_put_ne (i := 2) (u := .slice (some ⟨gz, 0, none⟩) k k) HB'.out (show g + 1 ≠ g by omega))
      have HBL6 := Lib.hid (show Below g w (wr.setCell ⟨g, 2, none⟩ (.slice (some ⟨gz, 0, none⟩) k k)) from (HBL4.out.trans (HI.out.bl.mono (by have := HB4.out.lt; omega))).setCell (Nat.le_refl _) _)
      have hsz := HB4.out.lt
      have hOP := Lib.hid (HF.out.own (G.own_below HP4.out HI.out.bl) (by decide))
      have hOC := Lib.hid (HF.out.own (G.own_below HC4.out HI.out.bl) (by decide))
      have hOZ := Lib.hid (HF.out.own (G.own_ge HI.out.z (show g ≤ _ by omega)) (by decide))
      have hOR := Lib.hid (show ∀ j, j < k → _ from fun j hj => HF.out.own (G.own_ge (HI.out.each j hj) (show g ≤ _ by omega)) (by decide))
      have hAP := Lib.hid HI.out.apart
      obtain ⟨w6, hw6⟩ : ∃ w6, w6 = wr.setCell ⟨g, 2, none⟩ (.slice (some ⟨gz, 0, none⟩) k k) := ⟨_, rfl⟩
      rw [← hw6] at HB6 HB6' HBL6 hOP hOC hOZ hOR ⊢
      clear hw6 c2 f2 l2 HF hB
      simp only [List.setIfInBounds_toArray, List.set_cons_zero, List.set_cons_succ] at HB6
      have d0 := HB6.out.cell 0
      have d1 := HB6.out.cell 1
      have d2 := HB6.out.cell 2
      have d3 := HB6.out.cell 3
      have d4 := HB6.out.cell 4
      have d5 := HB6.out.cell 5
      have d6 := HB6.out.cell 6
      go_wp2_with (refine wpList_store_row rfl 27 _ _ rfl (g + 1) #[.slice ad1 n k1, .slice ad3 m k3, .slice (some ⟨gz, 0, none⟩) k k, .int .i32 turn, .int .i64 whose, .int .i8 fin, .int .i64 win] rfl rfl 27 _ HB6'.out (by kernel_rfl) (by kernel_rfl) (by kernel_rfl) ?_)
      have HF2 := only_row (cs2 := #[.slice ad1 n k1, .slice ad3 m k3, .slice (some ⟨gz, 0, none⟩) k k, .int .i32 turn, .int .i64 whose, .int .i8 fin, .int .i64 win]) HB6'.out
      refine bodyPost_ret (v := .agg #[.slice ad1 n k1, .slice ad3 m k3, .slice (some ⟨gz, 0, none⟩) k k, .int .i32 turn, .int .i64 whose, .int .i8 fin, .int .i64 win]) (st_result rfl _ _ (g + 1) _ rfl (setRow_heap _ _ _ _ _ _ HB6'.out) rfl) rfl ⟨⟨ad1, k1, ad3, k3, some ⟨gz, 0, none⟩, k, rs⟩, ?_, ?_, ?_⟩
      · rw [HN.out, HM.out, HK.out]
        rfl
      · rw [← HG.out]
        refine ⟨HF2.own ?_ (by decide), HF2.own ?_ (by decide), HF2.own ?_ (by decide), fun i hi => HF2.own (hOR.out i (by rw [HK.out]; exact hi)) (by decide), fun i j hi hj hij => hAP.out i j (by rw [HK.out]; exact hi) (by rw [HK.out]; exact hj) hij⟩
        · have h9 := hOP.out
          rw [HN.out] at h9
          exact h9
        · have h9 := hOC.out
          rw [HM.out] at h9
          exact h9
        · have h9 := hOZ.out
          rw [HK.out] at h9
          rw [HK.out]
          exact h9
      · rw [← HG.out]
        exact below_setRow HBL6.out (by omega) _
end Go.Proofs.YtmhklnjmeoeanaaGreatDoor.D

/- The contracts of the closures that keep the fields which a kind names. Printed by gen_kc.py. -/
import Derived.Test.YtmhklnjmeoeanaaGreatDoorDShuf
import Derived.Laws.EntriesVeiled
import Derived.Laws.Tables
import Derived.Laws.Rows
import Derived.Laws.CopyOwn
namespace Go.Proofs.YtmhklnjmeoeanaaGreatDoor.D
open Go Go.RowKit
set_option linter.unusedVariables false
set_option linter.unusedSimpArgs false
/-- A build whose cells are known. -/
theorem build_to {P : Program} {ops : Array Oper} {rest : List Oper} {o : Oper} {a : Act} {w : World} {Q : Exit → Act → World → Prop} (cells : Array Value) (hg : o.guard = none) (t : TypeId) (parts : Array (Nat × Operand)) (ho : o.op = .build t parts)
    (vals : List (Nat × Value)) (hv : (parts.map fun (i, x) => (i, a.eval x)).toList = vals) (hf : P.built t vals = some cells)
    (h : wpList P ops Q rest (a.put o.dst (.agg cells)) w) : wpList P ops Q (o :: rest) a w := by
  subst hv
  refine wpList_build hg t parts ho (by rw [hf]; rfl) ?_
  rw [hf]
  exact h
def thingsK0 : Array Value := #[Value.func (Fn.func 115) #[] #[], Value.func (Fn.func 116) #[] #[], Value.func (Fn.func 118) #[] #[], Value.func (Fn.func 119) #[] #[]]
def thingsK1 : Array Value := #[Value.func (Fn.func 121) #[] #[], Value.func (Fn.func 122) #[] #[], Value.func (Fn.func 124) #[] #[], Value.func (Fn.func 125) #[] #[]]
def thingsK2 : Array Value := #[Value.func (Fn.func 127) #[] #[], Value.func (Fn.func 128) #[] #[], Value.func (Fn.func 129) #[] #[], Value.func (Fn.func 130) #[] #[]]
def thingsK3 : Array Value := #[Value.func (Fn.func 131) #[] #[], Value.func (Fn.func 132) #[] #[], Value.func (Fn.func 134) #[] #[], Value.func (Fn.func 135) #[] #[]]
def gamesK0 : Array Value := #[Value.func (Fn.func 138) #[] #[], Value.func (Fn.func 139) #[] #[], Value.func (Fn.func 141) #[] #[], Value.func (Fn.func 142) #[] #[]]
def gamesK1 : Array Value := #[Value.func (Fn.func 143) #[] #[], Value.func (Fn.func 144) #[] #[], Value.func (Fn.func 146) #[] #[], Value.func (Fn.func 147) #[] #[]]
def gamesK2 : Array Value := #[Value.func (Fn.func 148) #[] #[], Value.func (Fn.func 149) #[] #[], Value.func (Fn.func 150) #[] #[], Value.func (Fn.func 151) #[] #[]]
def thingsArr : Array Value := #[Value.nilFunc, Value.nilFunc, Value.nilFunc, Value.nilFunc, Value.func (Fn.func 115) #[] #[], Value.func (Fn.func 116) #[] #[], Value.func (Fn.func 118) #[] #[], Value.func (Fn.func 119) #[] #[], Value.func (Fn.func 121) #[] #[], Value.func (Fn.func 122) #[] #[], Value.func (Fn.func 124) #[] #[], Value.func (Fn.func 125) #[] #[], Value.func (Fn.func 127) #[] #[], Value.func (Fn.func 128) #[] #[], Value.func (Fn.func 129) #[] #[], Value.func (Fn.func 130) #[] #[], Value.func (Fn.func 131) #[] #[], Value.func (Fn.func 132) #[] #[], Value.func (Fn.func 134) #[] #[], Value.func (Fn.func 135) #[] #[], Value.nilFunc, Value.nilFunc, Value.nilFunc, Value.nilFunc, Value.nilFunc, Value.nilFunc, Value.nilFunc, Value.nilFunc, Value.nilFunc, Value.nilFunc, Value.nilFunc, Value.nilFunc]
def gamesArr : Array Value := #[Value.nilFunc, Value.nilFunc, Value.nilFunc, Value.nilFunc, Value.nilFunc, Value.nilFunc, Value.nilFunc, Value.nilFunc, Value.nilFunc, Value.nilFunc, Value.nilFunc, Value.nilFunc, Value.nilFunc, Value.nilFunc, Value.nilFunc, Value.nilFunc, Value.nilFunc, Value.nilFunc, Value.nilFunc, Value.nilFunc, Value.func (Fn.func 138) #[] #[], Value.func (Fn.func 139) #[] #[], Value.func (Fn.func 141) #[] #[], Value.func (Fn.func 142) #[] #[], Value.func (Fn.func 143) #[] #[], Value.func (Fn.func 144) #[] #[], Value.func (Fn.func 146) #[] #[], Value.func (Fn.func 147) #[] #[], Value.func (Fn.func 148) #[] #[], Value.func (Fn.func 149) #[] #[], Value.func (Fn.func 150) #[] #[], Value.func (Fn.func 151) #[] #[]]
theorem things_b0 : Tryz.prog.built 161 [(0, Value.func (Fn.func 115) #[] #[]), (1, Value.func (Fn.func 116) #[] #[]), (2, Value.func (Fn.func 118) #[] #[]), (3, Value.func (Fn.func 119) #[] #[])] = some thingsK0 := by kernel_rfl
theorem things_b1 : Tryz.prog.built 161 [(0, Value.func (Fn.func 121) #[] #[]), (1, Value.func (Fn.func 122) #[] #[]), (2, Value.func (Fn.func 124) #[] #[]), (3, Value.func (Fn.func 125) #[] #[])] = some thingsK1 := by kernel_rfl
theorem things_b2 : Tryz.prog.built 161 [(0, Value.func (Fn.func 127) #[] #[]), (1, Value.func (Fn.func 128) #[] #[]), (2, Value.func (Fn.func 129) #[] #[]), (3, Value.func (Fn.func 130) #[] #[])] = some thingsK2 := by kernel_rfl
theorem things_b3 : Tryz.prog.built 161 [(0, Value.func (Fn.func 131) #[] #[]), (1, Value.func (Fn.func 132) #[] #[]), (2, Value.func (Fn.func 134) #[] #[]), (3, Value.func (Fn.func 135) #[] #[])] = some thingsK3 := by kernel_rfl
theorem things_bA : Tryz.prog.built 174 [(1, .agg thingsK0), (2, .agg thingsK1), (3, .agg thingsK2), (4, .agg thingsK3)] = some thingsArr := by kernel_rfl
theorem things_any (w : World) : Calls Tryz.prog 101 #[] w fun e w' => e = .returned (.agg thingsArr) ∧ Below w.heap.size w w' := by
  go_enter Tryz.func101, Tryz.ntmps101
  go_upto_region 1 with (fail)
  generalize hold : (#[Value.nilFunc, Value.nilFunc, Value.nilFunc, Value.nilFunc, Value.nilFunc, Value.nilFunc, Value.nilFunc, Value.nilFunc, Value.nilFunc, Value.nilFunc, Value.nilFunc, Value.nilFunc, Value.nilFunc, Value.nilFunc, Value.nilFunc, Value.nilFunc, Value.nilFunc, Value.nilFunc, Value.nilFunc, Value.nilFunc, Value.nilFunc, Value.nilFunc, Value.nilFunc, Value.nilFunc, Value.nilFunc, Value.nilFunc, Value.nilFunc, Value.nilFunc, Value.nilFunc, Value.nilFunc, Value.nilFunc, Value.nilFunc] : Array Value) = old
  have hos : old.size = 32 := by rw [← hold]; rfl
  apply wp_region_lit
  refine build_to thingsK0 rfl 161 _ rfl _ (by kernel_rfl) things_b0 ?_
  refine build_to thingsK1 rfl 161 _ rfl _ (by kernel_rfl) things_b1 ?_
  refine build_to thingsK2 rfl 161 _ rfl _ (by kernel_rfl) things_b2 ?_
  refine build_to thingsK3 rfl 161 _ rfl _ (by kernel_rfl) things_b3 ?_
  refine build_to thingsArr rfl 174 _ rfl _ (by kernel_rfl) things_bA ?_
  refine wpList_store_row rfl 174 _ _ rfl w.heap.size thingsArr rfl rfl 174 old (heap_alloc_new w _) (by kernel_rfl) (by rw [hos]; rfl) (by kernel_rfl) ?_
  rename_i Q0 K0 hK
  refine hK _ _ (wp_ret ?_)
  show bodyPost Tryz.prog _ _ .ret _ _
  refine bodyPost_ret (v := .agg thingsArr) (results_cell_row rfl _ _ w.heap.size 174 thingsArr (0, 0) (.array 8 161) rfl (setRow_heap _ _ old _ _ _ (heap_alloc_new w _)) (by kernel_rfl) rfl (by kernel_rfl)) rfl ⟨rfl, ?_⟩
  exact below_setRow ((Below.refl _ _).alloc (Nat.le_refl _) _) (Nat.le_refl _) _
theorem games_b0 : Tryz.prog.built 161 [(0, Value.func (Fn.func 138) #[] #[]), (1, Value.func (Fn.func 139) #[] #[]), (2, Value.func (Fn.func 141) #[] #[]), (3, Value.func (Fn.func 142) #[] #[])] = some gamesK0 := by kernel_rfl
theorem games_b1 : Tryz.prog.built 161 [(0, Value.func (Fn.func 143) #[] #[]), (1, Value.func (Fn.func 144) #[] #[]), (2, Value.func (Fn.func 146) #[] #[]), (3, Value.func (Fn.func 147) #[] #[])] = some gamesK1 := by kernel_rfl
theorem games_b2 : Tryz.prog.built 161 [(0, Value.func (Fn.func 148) #[] #[]), (1, Value.func (Fn.func 149) #[] #[]), (2, Value.func (Fn.func 150) #[] #[]), (3, Value.func (Fn.func 151) #[] #[])] = some gamesK2 := by kernel_rfl
theorem games_bA : Tryz.prog.built 174 [(5, .agg gamesK0), (6, .agg gamesK1), (7, .agg gamesK2)] = some gamesArr := by kernel_rfl
theorem games_any (w : World) : Calls Tryz.prog 102 #[] w fun e w' => e = .returned (.agg gamesArr) ∧ Below w.heap.size w w' := by
  go_enter Tryz.func102, Tryz.ntmps102
  go_upto_region 1 with (fail)
  generalize hold : (#[Value.nilFunc, Value.nilFunc, Value.nilFunc, Value.nilFunc, Value.nilFunc, Value.nilFunc, Value.nilFunc, Value.nilFunc, Value.nilFunc, Value.nilFunc, Value.nilFunc, Value.nilFunc, Value.nilFunc, Value.nilFunc, Value.nilFunc, Value.nilFunc, Value.nilFunc, Value.nilFunc, Value.nilFunc, Value.nilFunc, Value.nilFunc, Value.nilFunc, Value.nilFunc, Value.nilFunc, Value.nilFunc, Value.nilFunc, Value.nilFunc, Value.nilFunc, Value.nilFunc, Value.nilFunc, Value.nilFunc, Value.nilFunc] : Array Value) = old
  have hos : old.size = 32 := by rw [← hold]; rfl
  apply wp_region_lit
  refine build_to gamesK0 rfl 161 _ rfl _ (by kernel_rfl) games_b0 ?_
  refine build_to gamesK1 rfl 161 _ rfl _ (by kernel_rfl) games_b1 ?_
  refine build_to gamesK2 rfl 161 _ rfl _ (by kernel_rfl) games_b2 ?_
  refine build_to gamesArr rfl 174 _ rfl _ (by kernel_rfl) games_bA ?_
  refine wpList_store_row rfl 174 _ _ rfl w.heap.size gamesArr rfl rfl 174 old (heap_alloc_new w _) (by kernel_rfl) (by rw [hos]; rfl) (by kernel_rfl) ?_
  rename_i Q0 K0 hK
  refine hK _ _ (wp_ret ?_)
  show bodyPost Tryz.prog _ _ .ret _ _
  refine bodyPost_ret (v := .agg gamesArr) (results_cell_row rfl _ _ w.heap.size 174 gamesArr (0, 0) (.array 8 161) rfl (setRow_heap _ _ old _ _ _ (heap_alloc_new w _)) (by kernel_rfl) rfl (by kernel_rfl)) rfl ⟨rfl, ?_⟩
  exact below_setRow ((Below.refl _ _).alloc (Nat.le_refl _) _) (Nat.le_refl _) _
end Go.Proofs.YtmhklnjmeoeanaaGreatDoor.D
namespace Go.Proofs.YtmhklnjmeoeanaaGreatDoor.D
open Go Go.RowKit
set_option linter.unusedVariables false
set_option linter.unusedSimpArgs false
/-- What a kept event's order lies in. -/
def keepV (y : EV) (e : Ev) : EV := if e.kind = 4 then y else ⟨none, 0⟩
theorem run_ev {w : World} {g : Nat} {cs : Array Value} (hg : w.heap[g]? = some (.cells cs 37 (0, 0))) (hs : cs.size = 12) : (loadVar 37 ⟨g, 0, none⟩).run Tryz.prog w = .ok (.agg cs) w := by
  have hi : (Tryz.prog.info? 37).map (·.size) = some 12 := by kernel_rfl
  have hu : (Tryz.prog.underlying 37).map (fun d => match d with | .struct _ => true | _ => false) = some true := by kernel_rfl
  obtain ⟨fs, hfs⟩ : ∃ fs, Tryz.prog.underlying 37 = some (.struct fs) := by
    cases hx : Tryz.prog.underlying 37 with
    | none => rw [hx] at hu; simp at hu
    | some d =>
      rw [hx] at hu
      cases d <;> simp at hu
      exact ⟨_, rfl⟩
  exact run_loadVar_row (P := Tryz.prog) w g 37 37 cs (0, 0) (.struct fs) hg hfs rfl (by rw [hs]; exact hi)
theorem ev_result {fn : Func} {p : Tmp} (h : fn.results = #[.cell p 37]) (tmps : Array Value) (w : World) (g : Nat) (cs : Array Value) (hp : tmps.getD p undef = .pointer (some ⟨g, 0, none⟩)) (hg : w.heap[g]? = some (.cells cs 37 (0, 0))) (hs : cs.size = 12) :
    (results fn tmps).run Tryz.prog w = .ok (.agg cs) w := by
  have hp' : tmps[p]?.getD undef = .pointer (some ⟨g, 0, none⟩) := by simpa using hp
  simp [results, h, hp', asAddr, run_ev hg hs]
def zeroE : Array Value := #[.int .i8 0, .int .i8 0, .int .i64 0, .int .i64 0, .int .i64 0, .int .i64 0, .int .i64 0, .int .i64 0, .int .i64 0, .int .i32 0, .int .i32 0, .slice none 0 0]
set_option maxRecDepth 100000 in
set_option maxHeartbeats 2000000 in
theorem keep1_any (w : World) (y : EV) (e : Ev) (hk : e.kind = 1) : Calls Tryz.prog 115 #[y.val e] w fun e' w' => e' = .returned ((keepV y e).val (keepE e)) ∧ Below w.heap.size w w' := by
  have hv : (keepV y e).val (keepE e) = .agg #[.int .i8 e.kind, .int .i8 0, .int .i64 e.card, .int .i64 0, .int .i64 0, .int .i64 e.src, .int .i64 e.srcAt, .int .i64 e.dst, .int .i64 e.dstAt, .int .i32 0, .int .i32 0, .slice none 0 0] := by unfold keepV keepE; rw [if_neg (by omega), if_pos hk]; rfl
  rw [hv]
  obtain ⟨kind, field, card, player, other, src, srcAt, dst, dstAt, was, now, order⟩ := e
  obtain ⟨oa, oc⟩ := y
  clear hv hk
  unfold EV.val EV.arr
  simp only
  generalize hev : (#[.int .i8 kind, .int .i8 field, .int .i64 card, .int .i64 player, .int .i64 other, .int .i64 src, .int .i64 srcAt, .int .i64 dst, .int .i64 dstAt, .int .i32 was, .int .i32 now, .slice oa order.length oc] : Array Value) = ev
  have he0 : ev[0]? = some (.int .i8 kind) := by rw [← hev]; rfl
  have he2 : ev[2]? = some (.int .i64 card) := by rw [← hev]; rfl
  have he5 : ev[5]? = some (.int .i64 src) := by rw [← hev]; rfl
  have he6 : ev[6]? = some (.int .i64 srcAt) := by rw [← hev]; rfl
  have he7 : ev[7]? = some (.int .i64 dst) := by rw [← hev]; rfl
  have he8 : ev[8]? = some (.int .i64 dstAt) := by rw [← hev]; rfl
  clear hev
  go_enter Tryz.func115, Tryz.ntmps115
  go_upto_region 1 with (fail)
  have hB0 := Lib.hid ((((Below.refl w.heap.size w).alloc (Nat.le_refl _) (.cells ev 37)).alloc (by simp) (.cells zeroE 37)))
  have hE0 := Lib.hid (heap_alloc2_old w (.cells ev 37) (.cells zeroE 37))
  have hR0 := Lib.hid (heap_alloc2_new w (.cells ev 37) (.cells zeroE 37))
  obtain ⟨w0, hw0⟩ : ∃ w0, w0 = (w.alloc (.cells ev 37)).alloc (.cells zeroE 37) := ⟨_, rfl⟩
  rw [← hw0] at hB0 hE0 hR0
  unfold zeroE at hw0
  rw [← hw0]
  clear hw0
  generalize hg : w.heap.size = g at *
  have hB0 := hB0.out
  have hE0 := hE0.out
  have hR0 := hR0.out
  have hc0 : w0.cell? ⟨g, 0, none⟩ = some (.int .i8 kind) := by rw [cell_of_row w0 g 0 ev _ _ hE0]; exact he0
  have hc2 : w0.cell? ⟨g, 2, none⟩ = some (.int .i64 card) := by rw [cell_of_row w0 g 2 ev _ _ hE0]; exact he2
  have hc5 : w0.cell? ⟨g, 5, none⟩ = some (.int .i64 src) := by rw [cell_of_row w0 g 5 ev _ _ hE0]; exact he5
  have hc6 : w0.cell? ⟨g, 6, none⟩ = some (.int .i64 srcAt) := by rw [cell_of_row w0 g 6 ev _ _ hE0]; exact he6
  have hc7 : w0.cell? ⟨g, 7, none⟩ = some (.int .i64 dst) := by rw [cell_of_row w0 g 7 ev _ _ hE0]; exact he7
  have hc8 : w0.cell? ⟨g, 8, none⟩ = some (.int .i64 dstAt) := by rw [cell_of_row w0 g 8 ev _ _ hE0]; exact he8
  go_wp2_with (first | (refine build_to #[.int .i8 kind, .int .i8 0, .int .i64 card, .int .i64 0, .int .i64 0, .int .i64 src, .int .i64 srcAt, .int .i64 dst, .int .i64 dstAt, .int .i32 0, .int .i32 0, .slice none 0 0] rfl 37 _ rfl [(0, .int .i8 kind), (2, .int .i64 card), (5, .int .i64 src), (6, .int .i64 srcAt), (7, .int .i64 dst), (8, .int .i64 dstAt)] rfl (by kernel_rfl) ?_) | (refine wpList_store_row rfl 37 _ _ rfl (g + 1) #[.int .i8 kind, .int .i8 0, .int .i64 card, .int .i64 0, .int .i64 0, .int .i64 src, .int .i64 srcAt, .int .i64 dst, .int .i64 dstAt, .int .i32 0, .int .i32 0, .slice none 0 0] rfl rfl 37 zeroE hR0 (by kernel_rfl) (by kernel_rfl) (by kernel_rfl) ?_))
  refine bodyPost_ret (v := .agg #[.int .i8 kind, .int .i8 0, .int .i64 card, .int .i64 0, .int .i64 0, .int .i64 src, .int .i64 srcAt, .int .i64 dst, .int .i64 dstAt, .int .i32 0, .int .i32 0, .slice none 0 0]) (ev_result rfl _ _ (g + 1) _ rfl (setRow_heap _ _ _ _ _ _ hR0) rfl) rfl ⟨rfl, ?_⟩
  first | exact below_setRow hB0 (by omega) _ | (rw [hg]; exact below_setRow hB0 (by omega) _)
set_option maxRecDepth 100000 in
set_option maxHeartbeats 2000000 in
theorem keep2_any (w : World) (y : EV) (e : Ev) (hk : e.kind = 2) : Calls Tryz.prog 121 #[y.val e] w fun e' w' => e' = .returned ((keepV y e).val (keepE e)) ∧ Below w.heap.size w w' := by
  have hv : (keepV y e).val (keepE e) = .agg #[.int .i8 e.kind, .int .i8 e.field, .int .i64 e.card, .int .i64 0, .int .i64 0, .int .i64 0, .int .i64 0, .int .i64 0, .int .i64 0, .int .i32 e.was, .int .i32 e.now, .slice none 0 0] := by unfold keepV keepE; rw [if_neg (by omega), if_neg (by omega), if_pos hk]; rfl
  rw [hv]
  obtain ⟨kind, field, card, player, other, src, srcAt, dst, dstAt, was, now, order⟩ := e
  obtain ⟨oa, oc⟩ := y
  clear hv hk
  unfold EV.val EV.arr
  simp only
  generalize hev : (#[.int .i8 kind, .int .i8 field, .int .i64 card, .int .i64 player, .int .i64 other, .int .i64 src, .int .i64 srcAt, .int .i64 dst, .int .i64 dstAt, .int .i32 was, .int .i32 now, .slice oa order.length oc] : Array Value) = ev
  have he0 : ev[0]? = some (.int .i8 kind) := by rw [← hev]; rfl
  have he1 : ev[1]? = some (.int .i8 field) := by rw [← hev]; rfl
  have he2 : ev[2]? = some (.int .i64 card) := by rw [← hev]; rfl
  have he9 : ev[9]? = some (.int .i32 was) := by rw [← hev]; rfl
  have he10 : ev[10]? = some (.int .i32 now) := by rw [← hev]; rfl
  clear hev
  go_enter Tryz.func121, Tryz.ntmps121
  go_upto_region 1 with (fail)
  have hB0 := Lib.hid ((((Below.refl w.heap.size w).alloc (Nat.le_refl _) (.cells ev 37)).alloc (by simp) (.cells zeroE 37)))
  have hE0 := Lib.hid (heap_alloc2_old w (.cells ev 37) (.cells zeroE 37))
  have hR0 := Lib.hid (heap_alloc2_new w (.cells ev 37) (.cells zeroE 37))
  obtain ⟨w0, hw0⟩ : ∃ w0, w0 = (w.alloc (.cells ev 37)).alloc (.cells zeroE 37) := ⟨_, rfl⟩
  rw [← hw0] at hB0 hE0 hR0
  unfold zeroE at hw0
  rw [← hw0]
  clear hw0
  generalize hg : w.heap.size = g at *
  have hB0 := hB0.out
  have hE0 := hE0.out
  have hR0 := hR0.out
  have hc0 : w0.cell? ⟨g, 0, none⟩ = some (.int .i8 kind) := by rw [cell_of_row w0 g 0 ev _ _ hE0]; exact he0
  have hc1 : w0.cell? ⟨g, 1, none⟩ = some (.int .i8 field) := by rw [cell_of_row w0 g 1 ev _ _ hE0]; exact he1
  have hc2 : w0.cell? ⟨g, 2, none⟩ = some (.int .i64 card) := by rw [cell_of_row w0 g 2 ev _ _ hE0]; exact he2
  have hc9 : w0.cell? ⟨g, 9, none⟩ = some (.int .i32 was) := by rw [cell_of_row w0 g 9 ev _ _ hE0]; exact he9
  have hc10 : w0.cell? ⟨g, 10, none⟩ = some (.int .i32 now) := by rw [cell_of_row w0 g 10 ev _ _ hE0]; exact he10
  go_wp2_with (first | (refine build_to #[.int .i8 kind, .int .i8 field, .int .i64 card, .int .i64 0, .int .i64 0, .int .i64 0, .int .i64 0, .int .i64 0, .int .i64 0, .int .i32 was, .int .i32 now, .slice none 0 0] rfl 37 _ rfl [(0, .int .i8 kind), (1, .int .i8 field), (2, .int .i64 card), (9, .int .i32 was), (10, .int .i32 now)] rfl (by kernel_rfl) ?_) | (refine wpList_store_row rfl 37 _ _ rfl (g + 1) #[.int .i8 kind, .int .i8 field, .int .i64 card, .int .i64 0, .int .i64 0, .int .i64 0, .int .i64 0, .int .i64 0, .int .i64 0, .int .i32 was, .int .i32 now, .slice none 0 0] rfl rfl 37 zeroE hR0 (by kernel_rfl) (by kernel_rfl) (by kernel_rfl) ?_))
  refine bodyPost_ret (v := .agg #[.int .i8 kind, .int .i8 field, .int .i64 card, .int .i64 0, .int .i64 0, .int .i64 0, .int .i64 0, .int .i64 0, .int .i64 0, .int .i32 was, .int .i32 now, .slice none 0 0]) (ev_result rfl _ _ (g + 1) _ rfl (setRow_heap _ _ _ _ _ _ hR0) rfl) rfl ⟨rfl, ?_⟩
  first | exact below_setRow hB0 (by omega) _ | (rw [hg]; exact below_setRow hB0 (by omega) _)
set_option maxRecDepth 100000 in
set_option maxHeartbeats 2000000 in
theorem keep3_any (w : World) (y : EV) (e : Ev) (hk : e.kind = 3) : Calls Tryz.prog 127 #[y.val e] w fun e' w' => e' = .returned ((keepV y e).val (keepE e)) ∧ Below w.heap.size w w' := by
  have hv : (keepV y e).val (keepE e) = .agg #[.int .i8 e.kind, .int .i8 e.field, .int .i64 0, .int .i64 e.player, .int .i64 0, .int .i64 0, .int .i64 0, .int .i64 0, .int .i64 0, .int .i32 e.was, .int .i32 e.now, .slice none 0 0] := by unfold keepV keepE; rw [if_neg (by omega), if_neg (by omega), if_neg (by omega), if_pos hk]; rfl
  rw [hv]
  obtain ⟨kind, field, card, player, other, src, srcAt, dst, dstAt, was, now, order⟩ := e
  obtain ⟨oa, oc⟩ := y
  clear hv hk
  unfold EV.val EV.arr
  simp only
  generalize hev : (#[.int .i8 kind, .int .i8 field, .int .i64 card, .int .i64 player, .int .i64 other, .int .i64 src, .int .i64 srcAt, .int .i64 dst, .int .i64 dstAt, .int .i32 was, .int .i32 now, .slice oa order.length oc] : Array Value) = ev
  have he0 : ev[0]? = some (.int .i8 kind) := by rw [← hev]; rfl
  have he1 : ev[1]? = some (.int .i8 field) := by rw [← hev]; rfl
  have he3 : ev[3]? = some (.int .i64 player) := by rw [← hev]; rfl
  have he9 : ev[9]? = some (.int .i32 was) := by rw [← hev]; rfl
  have he10 : ev[10]? = some (.int .i32 now) := by rw [← hev]; rfl
  clear hev
  go_enter Tryz.func127, Tryz.ntmps127
  go_upto_region 1 with (fail)
  have hB0 := Lib.hid ((((Below.refl w.heap.size w).alloc (Nat.le_refl _) (.cells ev 37)).alloc (by simp) (.cells zeroE 37)))
  have hE0 := Lib.hid (heap_alloc2_old w (.cells ev 37) (.cells zeroE 37))
  have hR0 := Lib.hid (heap_alloc2_new w (.cells ev 37) (.cells zeroE 37))
  obtain ⟨w0, hw0⟩ : ∃ w0, w0 = (w.alloc (.cells ev 37)).alloc (.cells zeroE 37) := ⟨_, rfl⟩
  rw [← hw0] at hB0 hE0 hR0
  unfold zeroE at hw0
  rw [← hw0]
  clear hw0
  generalize hg : w.heap.size = g at *
  have hB0 := hB0.out
  have hE0 := hE0.out
  have hR0 := hR0.out
  have hc0 : w0.cell? ⟨g, 0, none⟩ = some (.int .i8 kind) := by rw [cell_of_row w0 g 0 ev _ _ hE0]; exact he0
  have hc1 : w0.cell? ⟨g, 1, none⟩ = some (.int .i8 field) := by rw [cell_of_row w0 g 1 ev _ _ hE0]; exact he1
  have hc3 : w0.cell? ⟨g, 3, none⟩ = some (.int .i64 player) := by rw [cell_of_row w0 g 3 ev _ _ hE0]; exact he3
  have hc9 : w0.cell? ⟨g, 9, none⟩ = some (.int .i32 was) := by rw [cell_of_row w0 g 9 ev _ _ hE0]; exact he9
  have hc10 : w0.cell? ⟨g, 10, none⟩ = some (.int .i32 now) := by rw [cell_of_row w0 g 10 ev _ _ hE0]; exact he10
  go_wp2_with (first | (refine build_to #[.int .i8 kind, .int .i8 field, .int .i64 0, .int .i64 player, .int .i64 0, .int .i64 0, .int .i64 0, .int .i64 0, .int .i64 0, .int .i32 was, .int .i32 now, .slice none 0 0] rfl 37 _ rfl [(0, .int .i8 kind), (1, .int .i8 field), (3, .int .i64 player), (9, .int .i32 was), (10, .int .i32 now)] rfl (by kernel_rfl) ?_) | (refine wpList_store_row rfl 37 _ _ rfl (g + 1) #[.int .i8 kind, .int .i8 field, .int .i64 0, .int .i64 player, .int .i64 0, .int .i64 0, .int .i64 0, .int .i64 0, .int .i64 0, .int .i32 was, .int .i32 now, .slice none 0 0] rfl rfl 37 zeroE hR0 (by kernel_rfl) (by kernel_rfl) (by kernel_rfl) ?_))
  refine bodyPost_ret (v := .agg #[.int .i8 kind, .int .i8 field, .int .i64 0, .int .i64 player, .int .i64 0, .int .i64 0, .int .i64 0, .int .i64 0, .int .i64 0, .int .i32 was, .int .i32 now, .slice none 0 0]) (ev_result rfl _ _ (g + 1) _ rfl (setRow_heap _ _ _ _ _ _ hR0) rfl) rfl ⟨rfl, ?_⟩
  first | exact below_setRow hB0 (by omega) _ | (rw [hg]; exact below_setRow hB0 (by omega) _)
set_option maxRecDepth 100000 in
set_option maxHeartbeats 2000000 in
theorem keep4_any (w : World) (y : EV) (e : Ev) (hk : e.kind = 4) : Calls Tryz.prog 131 #[y.val e] w fun e' w' => e' = .returned ((keepV y e).val (keepE e)) ∧ Below w.heap.size w w' := by
  have hv : (keepV y e).val (keepE e) = .agg #[.int .i8 e.kind, .int .i8 0, .int .i64 0, .int .i64 0, .int .i64 0, .int .i64 e.src, .int .i64 0, .int .i64 0, .int .i64 0, .int .i32 0, .int .i32 0, .slice y.oa e.order.length y.oc] := by unfold keepV keepE; rw [if_pos hk, if_neg (by omega), if_neg (by omega), if_neg (by omega), if_pos hk]; rfl
  rw [hv]
  obtain ⟨kind, field, card, player, other, src, srcAt, dst, dstAt, was, now, order⟩ := e
  obtain ⟨oa, oc⟩ := y
  clear hv hk
  unfold EV.val EV.arr
  simp only
  generalize hev : (#[.int .i8 kind, .int .i8 field, .int .i64 card, .int .i64 player, .int .i64 other, .int .i64 src, .int .i64 srcAt, .int .i64 dst, .int .i64 dstAt, .int .i32 was, .int .i32 now, .slice oa order.length oc] : Array Value) = ev
  have he0 : ev[0]? = some (.int .i8 kind) := by rw [← hev]; rfl
  have he5 : ev[5]? = some (.int .i64 src) := by rw [← hev]; rfl
  have he11 : ev[11]? = some (.slice oa order.length oc) := by rw [← hev]; rfl
  clear hev
  go_enter Tryz.func131, Tryz.ntmps131
  go_upto_region 1 with (fail)
  have hB0 := Lib.hid ((((Below.refl w.heap.size w).alloc (Nat.le_refl _) (.cells ev 37)).alloc (by simp) (.cells zeroE 37)))
  have hE0 := Lib.hid (heap_alloc2_old w (.cells ev 37) (.cells zeroE 37))
  have hR0 := Lib.hid (heap_alloc2_new w (.cells ev 37) (.cells zeroE 37))
  obtain ⟨w0, hw0⟩ : ∃ w0, w0 = (w.alloc (.cells ev 37)).alloc (.cells zeroE 37) := ⟨_, rfl⟩
  rw [← hw0] at hB0 hE0 hR0
  unfold zeroE at hw0
  rw [← hw0]
  clear hw0
  generalize hg : w.heap.size = g at *
  have hB0 := hB0.out
  have hE0 := hE0.out
  have hR0 := hR0.out
  have hc0 : w0.cell? ⟨g, 0, none⟩ = some (.int .i8 kind) := by rw [cell_of_row w0 g 0 ev _ _ hE0]; exact he0
  have hc5 : w0.cell? ⟨g, 5, none⟩ = some (.int .i64 src) := by rw [cell_of_row w0 g 5 ev _ _ hE0]; exact he5
  have hc11 : w0.cell? ⟨g, 11, none⟩ = some (.slice oa order.length oc) := by rw [cell_of_row w0 g 11 ev _ _ hE0]; exact he11
  go_wp2_with (first | (refine build_to #[.int .i8 kind, .int .i8 0, .int .i64 0, .int .i64 0, .int .i64 0, .int .i64 src, .int .i64 0, .int .i64 0, .int .i64 0, .int .i32 0, .int .i32 0, .slice oa order.length oc] rfl 37 _ rfl [(0, .int .i8 kind), (5, .int .i64 src), (11, .slice oa order.length oc)] rfl (by kernel_rfl) ?_) | (refine wpList_store_row rfl 37 _ _ rfl (g + 1) #[.int .i8 kind, .int .i8 0, .int .i64 0, .int .i64 0, .int .i64 0, .int .i64 src, .int .i64 0, .int .i64 0, .int .i64 0, .int .i32 0, .int .i32 0, .slice oa order.length oc] rfl rfl 37 zeroE hR0 (by kernel_rfl) (by kernel_rfl) (by kernel_rfl) ?_))
  refine bodyPost_ret (v := .agg #[.int .i8 kind, .int .i8 0, .int .i64 0, .int .i64 0, .int .i64 0, .int .i64 src, .int .i64 0, .int .i64 0, .int .i64 0, .int .i32 0, .int .i32 0, .slice oa order.length oc]) (ev_result rfl _ _ (g + 1) _ rfl (setRow_heap _ _ _ _ _ _ hR0) rfl) rfl ⟨rfl, ?_⟩
  first | exact below_setRow hB0 (by omega) _ | (rw [hg]; exact below_setRow hB0 (by omega) _)
set_option maxRecDepth 100000 in
set_option maxHeartbeats 2000000 in
theorem keep5_any (w : World) (y : EV) (e : Ev) (hk : e.kind = 5) : Calls Tryz.prog 138 #[y.val e] w fun e' w' => e' = .returned ((keepV y e).val (keepE e)) ∧ Below w.heap.size w w' := by
  have hv : (keepV y e).val (keepE e) = .agg #[.int .i8 e.kind, .int .i8 0, .int .i64 0, .int .i64 e.player, .int .i64 0, .int .i64 0, .int .i64 0, .int .i64 0, .int .i64 0, .int .i32 0, .int .i32 0, .slice none 0 0] := by unfold keepV keepE; rw [if_neg (by omega), if_neg (by omega), if_neg (by omega), if_neg (by omega), if_neg (by omega), if_pos hk]; rfl
  rw [hv]
  obtain ⟨kind, field, card, player, other, src, srcAt, dst, dstAt, was, now, order⟩ := e
  obtain ⟨oa, oc⟩ := y
  clear hv hk
  unfold EV.val EV.arr
  simp only
  generalize hev : (#[.int .i8 kind, .int .i8 field, .int .i64 card, .int .i64 player, .int .i64 other, .int .i64 src, .int .i64 srcAt, .int .i64 dst, .int .i64 dstAt, .int .i32 was, .int .i32 now, .slice oa order.length oc] : Array Value) = ev
  have he0 : ev[0]? = some (.int .i8 kind) := by rw [← hev]; rfl
  have he3 : ev[3]? = some (.int .i64 player) := by rw [← hev]; rfl
  clear hev
  go_enter Tryz.func138, Tryz.ntmps138
  go_upto_region 1 with (fail)
  have hB0 := Lib.hid ((((Below.refl w.heap.size w).alloc (Nat.le_refl _) (.cells ev 37)).alloc (by simp) (.cells zeroE 37)))
  have hE0 := Lib.hid (heap_alloc2_old w (.cells ev 37) (.cells zeroE 37))
  have hR0 := Lib.hid (heap_alloc2_new w (.cells ev 37) (.cells zeroE 37))
  obtain ⟨w0, hw0⟩ : ∃ w0, w0 = (w.alloc (.cells ev 37)).alloc (.cells zeroE 37) := ⟨_, rfl⟩
  rw [← hw0] at hB0 hE0 hR0
  unfold zeroE at hw0
  rw [← hw0]
  clear hw0
  generalize hg : w.heap.size = g at *
  have hB0 := hB0.out
  have hE0 := hE0.out
  have hR0 := hR0.out
  have hc0 : w0.cell? ⟨g, 0, none⟩ = some (.int .i8 kind) := by rw [cell_of_row w0 g 0 ev _ _ hE0]; exact he0
  have hc3 : w0.cell? ⟨g, 3, none⟩ = some (.int .i64 player) := by rw [cell_of_row w0 g 3 ev _ _ hE0]; exact he3
  go_wp2_with (first | (refine build_to #[.int .i8 kind, .int .i8 0, .int .i64 0, .int .i64 player, .int .i64 0, .int .i64 0, .int .i64 0, .int .i64 0, .int .i64 0, .int .i32 0, .int .i32 0, .slice none 0 0] rfl 37 _ rfl [(0, .int .i8 kind), (3, .int .i64 player)] rfl (by kernel_rfl) ?_) | (refine wpList_store_row rfl 37 _ _ rfl (g + 1) #[.int .i8 kind, .int .i8 0, .int .i64 0, .int .i64 player, .int .i64 0, .int .i64 0, .int .i64 0, .int .i64 0, .int .i64 0, .int .i32 0, .int .i32 0, .slice none 0 0] rfl rfl 37 zeroE hR0 (by kernel_rfl) (by kernel_rfl) (by kernel_rfl) ?_))
  refine bodyPost_ret (v := .agg #[.int .i8 kind, .int .i8 0, .int .i64 0, .int .i64 player, .int .i64 0, .int .i64 0, .int .i64 0, .int .i64 0, .int .i64 0, .int .i32 0, .int .i32 0, .slice none 0 0]) (ev_result rfl _ _ (g + 1) _ rfl (setRow_heap _ _ _ _ _ _ hR0) rfl) rfl ⟨rfl, ?_⟩
  first | exact below_setRow hB0 (by omega) _ | (rw [hg]; exact below_setRow hB0 (by omega) _)
set_option maxRecDepth 100000 in
set_option maxHeartbeats 2000000 in
theorem keep6_any (w : World) (y : EV) (e : Ev) (hk : e.kind = 6) : Calls Tryz.prog 143 #[y.val e] w fun e' w' => e' = .returned ((keepV y e).val (keepE e)) ∧ Below w.heap.size w w' := by
  have hv : (keepV y e).val (keepE e) = .agg #[.int .i8 e.kind, .int .i8 0, .int .i64 0, .int .i64 e.player, .int .i64 e.other, .int .i64 0, .int .i64 0, .int .i64 0, .int .i64 0, .int .i32 e.was, .int .i32 e.now, .slice none 0 0] := by unfold keepV keepE; rw [if_neg (by omega), if_neg (by omega), if_neg (by omega), if_neg (by omega), if_neg (by omega), if_neg (by omega), if_pos hk]; rfl
  rw [hv]
  obtain ⟨kind, field, card, player, other, src, srcAt, dst, dstAt, was, now, order⟩ := e
  obtain ⟨oa, oc⟩ := y
  clear hv hk
  unfold EV.val EV.arr
  simp only
  generalize hev : (#[.int .i8 kind, .int .i8 field, .int .i64 card, .int .i64 player, .int .i64 other, .int .i64 src, .int .i64 srcAt, .int .i64 dst, .int .i64 dstAt, .int .i32 was, .int .i32 now, .slice oa order.length oc] : Array Value) = ev
  have he0 : ev[0]? = some (.int .i8 kind) := by rw [← hev]; rfl
  have he3 : ev[3]? = some (.int .i64 player) := by rw [← hev]; rfl
  have he4 : ev[4]? = some (.int .i64 other) := by rw [← hev]; rfl
  have he9 : ev[9]? = some (.int .i32 was) := by rw [← hev]; rfl
  have he10 : ev[10]? = some (.int .i32 now) := by rw [← hev]; rfl
  clear hev
  go_enter Tryz.func143, Tryz.ntmps143
  go_upto_region 1 with (fail)
  have hB0 := Lib.hid ((((Below.refl w.heap.size w).alloc (Nat.le_refl _) (.cells ev 37)).alloc (by simp) (.cells zeroE 37)))
  have hE0 := Lib.hid (heap_alloc2_old w (.cells ev 37) (.cells zeroE 37))
  have hR0 := Lib.hid (heap_alloc2_new w (.cells ev 37) (.cells zeroE 37))
  obtain ⟨w0, hw0⟩ : ∃ w0, w0 = (w.alloc (.cells ev 37)).alloc (.cells zeroE 37) := ⟨_, rfl⟩
  rw [← hw0] at hB0 hE0 hR0
  unfold zeroE at hw0
  rw [← hw0]
  clear hw0
  generalize hg : w.heap.size = g at *
  have hB0 := hB0.out
  have hE0 := hE0.out
  have hR0 := hR0.out
  have hc0 : w0.cell? ⟨g, 0, none⟩ = some (.int .i8 kind) := by rw [cell_of_row w0 g 0 ev _ _ hE0]; exact he0
  have hc3 : w0.cell? ⟨g, 3, none⟩ = some (.int .i64 player) := by rw [cell_of_row w0 g 3 ev _ _ hE0]; exact he3
  have hc4 : w0.cell? ⟨g, 4, none⟩ = some (.int .i64 other) := by rw [cell_of_row w0 g 4 ev _ _ hE0]; exact he4
  have hc9 : w0.cell? ⟨g, 9, none⟩ = some (.int .i32 was) := by rw [cell_of_row w0 g 9 ev _ _ hE0]; exact he9
  have hc10 : w0.cell? ⟨g, 10, none⟩ = some (.int .i32 now) := by rw [cell_of_row w0 g 10 ev _ _ hE0]; exact he10
  go_wp2_with (first | (refine build_to #[.int .i8 kind, .int .i8 0, .int .i64 0, .int .i64 player, .int .i64 other, .int .i64 0, .int .i64 0, .int .i64 0, .int .i64 0, .int .i32 was, .int .i32 now, .slice none 0 0] rfl 37 _ rfl [(0, .int .i8 kind), (3, .int .i64 player), (4, .int .i64 other), (9, .int .i32 was), (10, .int .i32 now)] rfl (by kernel_rfl) ?_) | (refine wpList_store_row rfl 37 _ _ rfl (g + 1) #[.int .i8 kind, .int .i8 0, .int .i64 0, .int .i64 player, .int .i64 other, .int .i64 0, .int .i64 0, .int .i64 0, .int .i64 0, .int .i32 was, .int .i32 now, .slice none 0 0] rfl rfl 37 zeroE hR0 (by kernel_rfl) (by kernel_rfl) (by kernel_rfl) ?_))
  refine bodyPost_ret (v := .agg #[.int .i8 kind, .int .i8 0, .int .i64 0, .int .i64 player, .int .i64 other, .int .i64 0, .int .i64 0, .int .i64 0, .int .i64 0, .int .i32 was, .int .i32 now, .slice none 0 0]) (ev_result rfl _ _ (g + 1) _ rfl (setRow_heap _ _ _ _ _ _ hR0) rfl) rfl ⟨rfl, ?_⟩
  first | exact below_setRow hB0 (by omega) _ | (rw [hg]; exact below_setRow hB0 (by omega) _)
set_option maxRecDepth 100000 in
set_option maxHeartbeats 2000000 in
theorem keep7_any (w : World) (y : EV) (e : Ev) (hk : e.kind = 7) : Calls Tryz.prog 148 #[y.val e] w fun e' w' => e' = .returned ((keepV y e).val (keepE e)) ∧ Below w.heap.size w w' := by
  have hv : (keepV y e).val (keepE e) = .agg #[.int .i8 e.kind, .int .i8 0, .int .i64 0, .int .i64 e.player, .int .i64 0, .int .i64 0, .int .i64 0, .int .i64 0, .int .i64 0, .int .i32 0, .int .i32 e.now, .slice none 0 0] := by unfold keepV keepE; rw [if_neg (by omega), if_neg (by omega), if_neg (by omega), if_neg (by omega), if_neg (by omega), if_neg (by omega), if_neg (by omega), if_pos hk]; rfl
  rw [hv]
  obtain ⟨kind, field, card, player, other, src, srcAt, dst, dstAt, was, now, order⟩ := e
  obtain ⟨oa, oc⟩ := y
  clear hv hk
  unfold EV.val EV.arr
  simp only
  generalize hev : (#[.int .i8 kind, .int .i8 field, .int .i64 card, .int .i64 player, .int .i64 other, .int .i64 src, .int .i64 srcAt, .int .i64 dst, .int .i64 dstAt, .int .i32 was, .int .i32 now, .slice oa order.length oc] : Array Value) = ev
  have he0 : ev[0]? = some (.int .i8 kind) := by rw [← hev]; rfl
  have he3 : ev[3]? = some (.int .i64 player) := by rw [← hev]; rfl
  have he10 : ev[10]? = some (.int .i32 now) := by rw [← hev]; rfl
  clear hev
  go_enter Tryz.func148, Tryz.ntmps148
  go_upto_region 1 with (fail)
  have hB0 := Lib.hid ((((Below.refl w.heap.size w).alloc (Nat.le_refl _) (.cells ev 37)).alloc (by simp) (.cells zeroE 37)))
  have hE0 := Lib.hid (heap_alloc2_old w (.cells ev 37) (.cells zeroE 37))
  have hR0 := Lib.hid (heap_alloc2_new w (.cells ev 37) (.cells zeroE 37))
  obtain ⟨w0, hw0⟩ : ∃ w0, w0 = (w.alloc (.cells ev 37)).alloc (.cells zeroE 37) := ⟨_, rfl⟩
  rw [← hw0] at hB0 hE0 hR0
  unfold zeroE at hw0
  rw [← hw0]
  clear hw0
  generalize hg : w.heap.size = g at *
  have hB0 := hB0.out
  have hE0 := hE0.out
  have hR0 := hR0.out
  have hc0 : w0.cell? ⟨g, 0, none⟩ = some (.int .i8 kind) := by rw [cell_of_row w0 g 0 ev _ _ hE0]; exact he0
  have hc3 : w0.cell? ⟨g, 3, none⟩ = some (.int .i64 player) := by rw [cell_of_row w0 g 3 ev _ _ hE0]; exact he3
  have hc10 : w0.cell? ⟨g, 10, none⟩ = some (.int .i32 now) := by rw [cell_of_row w0 g 10 ev _ _ hE0]; exact he10
  go_wp2_with (first | (refine build_to #[.int .i8 kind, .int .i8 0, .int .i64 0, .int .i64 player, .int .i64 0, .int .i64 0, .int .i64 0, .int .i64 0, .int .i64 0, .int .i32 0, .int .i32 now, .slice none 0 0] rfl 37 _ rfl [(0, .int .i8 kind), (3, .int .i64 player), (10, .int .i32 now)] rfl (by kernel_rfl) ?_) | (refine wpList_store_row rfl 37 _ _ rfl (g + 1) #[.int .i8 kind, .int .i8 0, .int .i64 0, .int .i64 player, .int .i64 0, .int .i64 0, .int .i64 0, .int .i64 0, .int .i64 0, .int .i32 0, .int .i32 now, .slice none 0 0] rfl rfl 37 zeroE hR0 (by kernel_rfl) (by kernel_rfl) (by kernel_rfl) ?_))
  refine bodyPost_ret (v := .agg #[.int .i8 kind, .int .i8 0, .int .i64 0, .int .i64 player, .int .i64 0, .int .i64 0, .int .i64 0, .int .i64 0, .int .i64 0, .int .i32 0, .int .i32 now, .slice none 0 0]) (ev_result rfl _ _ (g + 1) _ rfl (setRow_heap _ _ _ _ _ _ hR0) rfl) rfl ⟨rfl, ?_⟩
  first | exact below_setRow hB0 (by omega) _ | (rw [hg]; exact below_setRow hB0 (by omega) _)
end Go.Proofs.YtmhklnjmeoeanaaGreatDoor.D

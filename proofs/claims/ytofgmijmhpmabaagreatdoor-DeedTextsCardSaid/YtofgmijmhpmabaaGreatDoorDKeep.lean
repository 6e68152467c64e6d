/- The arrays of what is said of the kinds of events. Printed by gen_keep.py. -/
import Derived.Test.YtofgmijmhpmabaaGreatDoorDOrder
import Derived.Laws.EntriesVeiled
import Derived.Laws.Tables
import Derived.Laws.Rows
import Derived.Laws.CopyOwn
namespace Go.Proofs.YtofgmijmhpmabaaGreatDoor.D
open Go Go.RowKit
set_option linter.unusedVariables false
set_option linter.unusedSimpArgs false
/-- A build whose cells are known. -/
theorem build_to {P : Program} {ops : Array Oper} {rest : List Oper} {o : Oper} {a : Act} {w : World} {Q : Exit → Act → World → Prop} (cells : Array Value) (hg : o.guard = none) (t : TypeId) (parts : Array (Nat × Operand)) (ho : o.op = .build t parts)
    (vals : List (Nat × Value)) (hv : (parts.map fun (i, x) => (i, a.eval x)).toList = vals) (hf : P.built t vals = some cells)
    (h : wpList P ops Q rest (a.put o.dst (.agg cells)) w) : wpList P ops Q (o :: rest) a w := by
  subst hv
  refine wpList_build hg t parts ho (by rw [hf]; rfl) ?_
  rw [hf]
  exact h
def thingsK0 : Array Value := #[Value.func (Fn.func 158) #[] #[], Value.func (Fn.func 159) #[] #[], Value.func (Fn.func 161) #[] #[], Value.func (Fn.func 162) #[] #[]]
def thingsK1 : Array Value := #[Value.func (Fn.func 163) #[] #[], Value.func (Fn.func 164) #[] #[], Value.func (Fn.func 166) #[] #[], Value.func (Fn.func 167) #[] #[]]
def thingsK2 : Array Value := #[Value.func (Fn.func 169) #[] #[], Value.func (Fn.func 170) #[] #[], Value.func (Fn.func 171) #[] #[], Value.func (Fn.func 172) #[] #[]]
def thingsK3 : Array Value := #[Value.func (Fn.func 173) #[] #[], Value.func (Fn.func 174) #[] #[], Value.func (Fn.func 176) #[] #[], Value.func (Fn.func 177) #[] #[]]
def gamesK0 : Array Value := #[Value.func (Fn.func 178) #[] #[], Value.func (Fn.func 179) #[] #[], Value.func (Fn.func 181) #[] #[], Value.func (Fn.func 182) #[] #[]]
def gamesK1 : Array Value := #[Value.func (Fn.func 183) #[] #[], Value.func (Fn.func 184) #[] #[], Value.func (Fn.func 186) #[] #[], Value.func (Fn.func 187) #[] #[]]
def gamesK2 : Array Value := #[Value.func (Fn.func 188) #[] #[], Value.func (Fn.func 189) #[] #[], Value.func (Fn.func 190) #[] #[], Value.func (Fn.func 191) #[] #[]]
def thingsArr : Array Value := #[Value.nilFunc, Value.nilFunc, Value.nilFunc, Value.nilFunc, Value.func (Fn.func 158) #[] #[], Value.func (Fn.func 159) #[] #[], Value.func (Fn.func 161) #[] #[], Value.func (Fn.func 162) #[] #[], Value.func (Fn.func 163) #[] #[], Value.func (Fn.func 164) #[] #[], Value.func (Fn.func 166) #[] #[], Value.func (Fn.func 167) #[] #[], Value.func (Fn.func 169) #[] #[], Value.func (Fn.func 170) #[] #[], Value.func (Fn.func 171) #[] #[], Value.func (Fn.func 172) #[] #[], Value.func (Fn.func 173) #[] #[], Value.func (Fn.func 174) #[] #[], Value.func (Fn.func 176) #[] #[], Value.func (Fn.func 177) #[] #[], Value.nilFunc, Value.nilFunc, Value.nilFunc, Value.nilFunc, Value.nilFunc, Value.nilFunc, Value.nilFunc, Value.nilFunc, Value.nilFunc, Value.nilFunc, Value.nilFunc, Value.nilFunc]
def gamesArr : Array Value := #[Value.nilFunc, Value.nilFunc, Value.nilFunc, Value.nilFunc, Value.nilFunc, Value.nilFunc, Value.nilFunc, Value.nilFunc, Value.nilFunc, Value.nilFunc, Value.nilFunc, Value.nilFunc, Value.nilFunc, Value.nilFunc, Value.nilFunc, Value.nilFunc, Value.nilFunc, Value.nilFunc, Value.nilFunc, Value.nilFunc, Value.func (Fn.func 178) #[] #[], Value.func (Fn.func 179) #[] #[], Value.func (Fn.func 181) #[] #[], Value.func (Fn.func 182) #[] #[], Value.func (Fn.func 183) #[] #[], Value.func (Fn.func 184) #[] #[], Value.func (Fn.func 186) #[] #[], Value.func (Fn.func 187) #[] #[], Value.func (Fn.func 188) #[] #[], Value.func (Fn.func 189) #[] #[], Value.func (Fn.func 190) #[] #[], Value.func (Fn.func 191) #[] #[]]
theorem things_b0 : Tryz.prog.built 114 [(0, Value.func (Fn.func 158) #[] #[]), (1, Value.func (Fn.func 159) #[] #[]), (2, Value.func (Fn.func 161) #[] #[]), (3, Value.func (Fn.func 162) #[] #[])] = some thingsK0 := by kernel_rfl
theorem things_b1 : Tryz.prog.built 114 [(0, Value.func (Fn.func 163) #[] #[]), (1, Value.func (Fn.func 164) #[] #[]), (2, Value.func (Fn.func 166) #[] #[]), (3, Value.func (Fn.func 167) #[] #[])] = some thingsK1 := by kernel_rfl
theorem things_b2 : Tryz.prog.built 114 [(0, Value.func (Fn.func 169) #[] #[]), (1, Value.func (Fn.func 170) #[] #[]), (2, Value.func (Fn.func 171) #[] #[]), (3, Value.func (Fn.func 172) #[] #[])] = some thingsK2 := by kernel_rfl
theorem things_b3 : Tryz.prog.built 114 [(0, Value.func (Fn.func 173) #[] #[]), (1, Value.func (Fn.func 174) #[] #[]), (2, Value.func (Fn.func 176) #[] #[]), (3, Value.func (Fn.func 177) #[] #[])] = some thingsK3 := by kernel_rfl
theorem things_bA : Tryz.prog.built 182 [(1, .agg thingsK0), (2, .agg thingsK1), (3, .agg thingsK2), (4, .agg thingsK3)] = some thingsArr := by kernel_rfl
theorem things_any (w : World) : Calls Tryz.prog 131 #[] w fun e w' => e = .returned (.agg thingsArr) ∧ Below w.heap.size w w' := by
  go_enter Tryz.func131, Tryz.ntmps131
  go_upto_region 1 with (fail)
  generalize hold : (#[Value.nilFunc, Value.nilFunc, Value.nilFunc, Value.nilFunc, Value.nilFunc, Value.nilFunc, Value.nilFunc, Value.nilFunc, Value.nilFunc, Value.nilFunc, Value.nilFunc, Value.nilFunc, Value.nilFunc, Value.nilFunc, Value.nilFunc, Value.nilFunc, Value.nilFunc, Value.nilFunc, Value.nilFunc, Value.nilFunc, Value.nilFunc, Value.nilFunc, Value.nilFunc, Value.nilFunc, Value.nilFunc, Value.nilFunc, Value.nilFunc, Value.nilFunc, Value.nilFunc, Value.nilFunc, Value.nilFunc, Value.nilFunc] : Array Value) = old
  have hos : old.size = 32 := by rw [← hold]; rfl
  apply wp_region_lit
  refine build_to thingsK0 rfl 114 _ rfl _ (by kernel_rfl) things_b0 ?_
  refine build_to thingsK1 rfl 114 _ rfl _ (by kernel_rfl) things_b1 ?_
  refine build_to thingsK2 rfl 114 _ rfl _ (by kernel_rfl) things_b2 ?_
  refine build_to thingsK3 rfl 114 _ rfl _ (by kernel_rfl) things_b3 ?_
  refine build_to thingsArr rfl 182 _ rfl _ (by kernel_rfl) things_bA ?_
  refine wpList_store_row rfl 182 _ _ rfl w.heap.size thingsArr rfl rfl 182 old (heap_alloc_new w _) (by kernel_rfl) (by rw [hos]; rfl) (by kernel_rfl) ?_
  rename_i Q0 K0 hK
  refine hK _ _ (wp_ret ?_)
  show bodyPost Tryz.prog _ _ .ret _ _
  refine bodyPost_ret (v := .agg thingsArr) (results_cell_row rfl _ _ w.heap.size 182 thingsArr (0, 0) (.array 8 114) rfl (setRow_heap _ _ old _ _ _ (heap_alloc_new w _)) (by kernel_rfl) rfl (by kernel_rfl)) rfl ⟨rfl, ?_⟩
  exact below_setRow ((Below.refl _ _).alloc (Nat.le_refl _) _) (Nat.le_refl _) _
theorem games_b0 : Tryz.prog.built 114 [(0, Value.func (Fn.func 178) #[] #[]), (1, Value.func (Fn.func 179) #[] #[]), (2, Value.func (Fn.func 181) #[] #[]), (3, Value.func (Fn.func 182) #[] #[])] = some gamesK0 := by kernel_rfl
theorem games_b1 : Tryz.prog.built 114 [(0, Value.func (Fn.func 183) #[] #[]), (1, Value.func (Fn.func 184) #[] #[]), (2, Value.func (Fn.func 186) #[] #[]), (3, Value.func (Fn.func 187) #[] #[])] = some gamesK1 := by kernel_rfl
theorem games_b2 : Tryz.prog.built 114 [(0, Value.func (Fn.func 188) #[] #[]), (1, Value.func (Fn.func 189) #[] #[]), (2, Value.func (Fn.func 190) #[] #[]), (3, Value.func (Fn.func 191) #[] #[])] = some gamesK2 := by kernel_rfl
theorem games_bA : Tryz.prog.built 182 [(5, .agg gamesK0), (6, .agg gamesK1), (7, .agg gamesK2)] = some gamesArr := by kernel_rfl
theorem games_any (w : World) : Calls Tryz.prog 132 #[] w fun e w' => e = .returned (.agg gamesArr) ∧ Below w.heap.size w w' := by
  go_enter Tryz.func132, Tryz.ntmps132
  go_upto_region 1 with (fail)
  generalize hold : (#[Value.nilFunc, Value.nilFunc, Value.nilFunc, Value.nilFunc, Value.nilFunc, Value.nilFunc, Value.nilFunc, Value.nilFunc, Value.nilFunc, Value.nilFunc, Value.nilFunc, Value.nilFunc, Value.nilFunc, Value.nilFunc, Value.nilFunc, Value.nilFunc, Value.nilFunc, Value.nilFunc, Value.nilFunc, Value.nilFunc, Value.nilFunc, Value.nilFunc, Value.nilFunc, Value.nilFunc, Value.nilFunc, Value.nilFunc, Value.nilFunc, Value.nilFunc, Value.nilFunc, Value.nilFunc, Value.nilFunc, Value.nilFunc] : Array Value) = old
  have hos : old.size = 32 := by rw [← hold]; rfl
  apply wp_region_lit
  refine build_to gamesK0 rfl 114 _ rfl _ (by kernel_rfl) games_b0 ?_
  refine build_to gamesK1 rfl 114 _ rfl _ (by kernel_rfl) games_b1 ?_
  refine build_to gamesK2 rfl 114 _ rfl _ (by kernel_rfl) games_b2 ?_
  refine build_to gamesArr rfl 182 _ rfl _ (by kernel_rfl) games_bA ?_
  refine wpList_store_row rfl 182 _ _ rfl w.heap.size gamesArr rfl rfl 182 old (heap_alloc_new w _) (by kernel_rfl) (by rw [hos]; rfl) (by kernel_rfl) ?_
  rename_i Q0 K0 hK
  refine hK _ _ (wp_ret ?_)
  show bodyPost Tryz.prog _ _ .ret _ _
  refine bodyPost_ret (v := .agg gamesArr) (results_cell_row rfl _ _ w.heap.size 182 gamesArr (0, 0) (.array 8 114) rfl (setRow_heap _ _ old _ _ _ (heap_alloc_new w _)) (by kernel_rfl) rfl (by kernel_rfl)) rfl ⟨rfl, ?_⟩
  exact below_setRow ((Below.refl _ _).alloc (Nat.le_refl _) _) (Nat.le_refl _) _
end Go.Proofs.YtofgmijmhpmabaaGreatDoor.D

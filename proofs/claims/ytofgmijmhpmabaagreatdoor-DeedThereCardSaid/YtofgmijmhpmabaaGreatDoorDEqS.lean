/- Two structs of numbers compared: field by field. Plain Lean, no program in sight. -/
import Derived.Laws.StructEq
import Derived.ChangeKeysEq
import Derived.WalkKit
namespace Go.Proofs.YtofgmijmhpmabaaGreatDoor.G
open Go Go.RowKit
set_option linter.unusedVariables false
set_option linter.unusedSimpArgs false
section
variable {P : Program} {w : World}
theorem eqFields_step {d : Nat} {xs ys : Array Value} {f : Field} {fs : List Field} {k : IntKind} {a b : Int} {rest : Bool} (hn : f.name ≠ "_") (ht : P.underlying f.type = some (.int k)) (hk : P.plainKey f.type = true) (hx : xs[f.offset]? = some (.int k a)) (hy : ys[f.offset]? = some (.int k b))
    (hr : (Op.eqFields (d + 1) xs ys fs).run P w = .ok rest w) : (Op.eqFields (d + 1) xs ys (f :: fs)).run P w = .ok (a == b && rest) w := by
  unfold Op.eqFields
  rw [if_pos hn]
  simp only [Sem.run_bind, run_part_plain w hk hx, run_part_plain w hk hy, Result.andThen_ok, run_equalIn_int w d f.type k k a b ht]
  cases h : a == b
  · simp
  · simp [hr]
theorem eqAt_step {d : Nat} {xs ys : Array Value} {L : List Field} {k : IntKind} {a b : Int} {rest : Bool} (j : Nat) (ty : TypeId) (h : (L[j]?).map (fun f => (f.name == "_", f.type, f.offset)) = some (false, ty, j)) (ht : P.underlying ty = some (.int k)) (hk : P.plainKey ty = true) (hx : xs[j]? = some (.int k a)) (hy : ys[j]? = some (.int k b))
    (hr : (Op.eqFields (d + 1) xs ys (L.drop (j + 1))).run P w = .ok rest w) : (Op.eqFields (d + 1) xs ys (L.drop j)).run P w = .ok (a == b && rest) w := by
  cases hf : L[j]? with
  | none => rw [hf] at h; cases h
  | some f =>
    rw [hf] at h
    simp only [Option.map_some, Option.some.injEq, Prod.mk.injEq] at h
    obtain ⟨h1, h2, h3⟩ := h
    have hd : L.drop j = f :: L.drop (j + 1) := by
      obtain ⟨hlt, hg⟩ := List.getElem?_eq_some_iff.1 hf
      rw [List.drop_eq_getElem_cons hlt, hg]
    rw [hd]
    exact eqFields_step (by simpa using h1) (by rw [h2]; exact ht) (by rw [h2]; exact hk) (by rw [h3]; exact hx) (by rw [h3]; exact hy) hr
theorem eqAt_end {d : Nat} {xs ys : Array Value} {L : List Field} {j : Nat} (h : L.length ≤ j) : (Op.eqFields d xs ys (L.drop j)).run P w = .ok true w := by
  rw [List.drop_eq_nil_of_le h]
  simp [Op.eqFields]
theorem exec_eql_struct {o : Oper} {f : Operand → Value} (t : TypeId) (x y : Operand) (ho : o.op = .binOp .eql t x y t) (xs ys : Array Value) (hx : f x = .agg xs) (hy : f y = .agg ys) (b : Bool) (hm : P.eqGuardType P.depth t = false)
    (ht : P.underlying t = some (.struct (P.fieldsOf t))) (hp : P.stoodInHeld t = false) (h : (Op.eqFields 9999 xs ys ((P.fieldsOf t).toList.drop 0)).run P w = .ok b w) : (execOp f o).run P w = .ok (.value (.bool b)) w := by
  rw [List.drop_zero] at h
  unfold execOp
  simp only [ho, hx, hy, Sem.run_bind, run_eqGuard_agg _ _ _ _ _ _ _ hm, Result.andThen_ok, run_eql_struct, run_equalIn_struct w 9999 t xs ys ht hp, h, Sem.run_pure]
end
end Go.Proofs.YtofgmijmhpmabaaGreatDoor.G

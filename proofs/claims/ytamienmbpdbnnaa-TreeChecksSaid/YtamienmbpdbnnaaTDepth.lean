/- How many are open at most in a tree, in plain Lean. No program in sight. -/
import Derived.Test.YtamienmbpdbnnaaTBase
namespace Go.Proofs.Ytamienmbpdbnnaa.T
open Go Go.RowKit
set_option linter.unusedVariables false
set_option linter.unusedSimpArgs false
def Fo.size : Fo → Nat
  | .nil => 0
  | .cons _ k r => 1 + k.size + r.size
theorem Fo.size_flat (f : Fo) : f.flat.length = f.size := by
  induction f with
  | nil => rfl
  | cons x k r h1 h2 => simp [Fo.flat, Fo.size, h1, h2]; omega
def incB (op : Int) : Bool := op == 10 || op == 19 || op == 50 || op == 34 || op == 35
def incI (op : Int) : Int := if incB op then 1 else 0
def lowI (op w : Int) : Int := if exprB op && decide (rankOf op < w) then 1 else 0
mutual
/-- The greatest number that is open within a node, so many being open around it. -/
def openT (x : Nd) (k : Fo) (d : Int) : Int :=
  if x.op = 49 then chainF k (d + incI x.op) 1
  else if rowB x.op then (rowF x.op k (d + incI x.op)).1
  else kidsMax x.op 0 (d + incI x.op) k (d + incI x.op)
termination_by (k.size, 1)
def chainF (f : Fo) (d n : Int) : Int :=
  match f with
  | .nil => d + n - 1
  | .cons x k r => if x.op = 49 then chainF k d (n + 1) else max (d + n - 1) (openT x k (d + lowI x.op 8))
termination_by (f.size, 0)
decreasing_by all_goals (simp only [Prod.lex_def, Fo.size]; omega)
def rowF (op : Int) (f : Fo) (d : Int) : Int × Int :=
  match f with
  | .cons l kl (.cons q kq r) =>
    let p := if rankOf l.op = rankOf op then rowF l.op kl d else (openT l kl (d + lowI l.op (wantsOf op 0)), 0)
    (max (max d p.1) (openT q kq (d + p.2 + lowI q.op (wantsOf op 1))), p.2 + 1)
  | _ => (d, 1)
termination_by (f.size, 0)
decreasing_by all_goals (simp only [Prod.lex_def, Fo.size]; omega)
def kidsMax (op : Int) (i : Nat) (d : Int) (f : Fo) (m : Int) : Int :=
  match f with
  | .nil => m
  | .cons x k r => kidsMax op (i + 1) d r (max m (if op = 13 ∧ i = 2 ∧ x.op = 13 then openT x k (d + 1) else openT x k (d + lowI x.op (wantsOf op i))))
termination_by (f.size, 0)
decreasing_by all_goals (simp only [Prod.lex_def, Fo.size]; omega)
end
/-- A tree that stands at a place of a list. -/
def StandsAt (t : List Nd) (p : Nat) (f : Fo) : Prop := ∃ r, t.drop p = f.flat ++ r
theorem StandsAt.get {t : List Nd} {p : Nat} {x : Nd} {k r : Fo} (h : StandsAt t p (.cons x k r)) : p < t.length ∧ t.getD p zeroNd = x := by
  obtain ⟨s, h⟩ := h
  have hl : p < t.length := by
    rcases Nat.lt_or_ge p t.length with h1 | h1
    · exact h1
    · rw [List.drop_eq_nil_of_le h1] at h
      simp [Fo.flat] at h
  refine ⟨hl, ?_⟩
  rw [List.drop_eq_getElem_cons hl] at h
  simp only [Fo.flat, List.cons_append, List.cons.injEq] at h
  rw [List.getD_eq_getElem?_getD, List.getElem?_eq_getElem hl]
  exact h.1
theorem StandsAt.kids {t : List Nd} {p : Nat} {x : Nd} {k r : Fo} (h : StandsAt t p (.cons x k r)) : StandsAt t (p + 1) k := by
  have hl := h.get.1
  obtain ⟨s, h⟩ := h
  rw [List.drop_eq_getElem_cons hl] at h
  simp only [Fo.flat, List.cons_append, List.cons.injEq] at h
  exact ⟨r.flat ++ s, by rw [h.2, List.append_assoc]⟩
theorem StandsAt.rest {t : List Nd} {p : Nat} {x : Nd} {k r : Fo} (h : StandsAt t p (.cons x k r)) : StandsAt t (p + 1 + k.size) r := by
  obtain ⟨s, h⟩ := h.kids.imp fun s hs => hs
  have hl := ‹StandsAt t p (.cons x k r)›.get.1
  obtain ⟨s', h'⟩ := ‹StandsAt t p (.cons x k r)›
  refine ⟨s', ?_⟩
  have e : t.drop (p + 1 + k.size) = (t.drop p).drop (1 + k.size) := by rw [List.drop_drop]; congr 1; omega
  rw [e, h']
  have e2 : (Fo.cons x k r).flat ++ s' = (x :: k.flat) ++ (r.flat ++ s') := by simp [Fo.flat]
  rw [e2, List.drop_left' (by simp [Fo.size_flat]; omega)]
end Go.Proofs.Ytamienmbpdbnnaa.T

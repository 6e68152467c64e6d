/- How deep, how heavy, is it a tree: the document's words, in plain Lean. -/
import Derived.Test.YtamienmbpdbnnaaTTasks
namespace Go.Proofs.Ytamienmbpdbnnaa.T
open Go Go.RowKit
set_option linter.unusedVariables false
set_option linter.unusedSimpArgs false
theorem flat_inj : ∀ (f g : Fo), f.wf → g.wf → f.len = g.len → ∀ (r s : List Nd), f.flat ++ r = g.flat ++ s → f = g
  | .nil, .nil, _, _, _, _, _, _ => rfl
  | .nil, .cons _ _ _, _, _, h, _, _, _ => by simp [Fo.len] at h
  | .cons _ _ _, .nil, _, _, h, _, _, _ => by simp [Fo.len] at h
  | .cons x k f, .cons y j g, hf, hg, hl, r, s, e => by
    simp only [Fo.flat, List.cons_append, List.append_assoc, List.cons.injEq] at e
    obtain ⟨rfl, e⟩ := e
    have hkj : k.len = j.len := by have h1 := hf.1; have h2 := hg.1; omega
    obtain rfl := flat_inj k j hf.2.1 hg.2.1 hkj _ _ e
    rw [List.append_cancel_left_eq] at e
    obtain rfl := flat_inj f g hf.2.2 hg.2.2 (by simp only [Fo.len] at hl; omega) _ _ e
    rfl
open Classical in
/-- P9.3: how many are open at most; 0: no tree. -/
noncomputable def depthOf (t : List Nd) : Int := if h : ∃ p : Nd × Fo, t = (Fo.cons p.1 p.2 .nil).flat ∧ OkF [0] 0 (.cons p.1 p.2 .nil) then openT (Classical.choose h).1 (Classical.choose h).2 0 else 0
theorem depthOf_yes {t : List Nd} {x : Nd} {k : Fo} (he : t = (Fo.cons x k .nil).flat) (hok : OkF [0] 0 (.cons x k .nil)) : depthOf t = openT x k 0 := by
  have h : ∃ p : Nd × Fo, t = (Fo.cons p.1 p.2 .nil).flat ∧ OkF [0] 0 (.cons p.1 p.2 .nil) := ⟨(x, k), he, hok⟩
  unfold depthOf
  rw [dif_pos h]
  obtain ⟨h1, h2⟩ := Classical.choose_spec h
  have h3 := flat_inj _ _ h2.good.wf hok.good.wf rfl [] [] (by rw [← h1, ← he])
  simp only [Fo.cons.injEq, and_true] at h3
  rw [h3.1, h3.2]
theorem depthOf_no {t : List Nd} (hs : 0 ≤ shapeOf t) : depthOf t = 0 := by
  unfold depthOf
  rw [dif_neg]
  rintro ⟨p, h1, h2⟩
  have := shape_tree.2 ⟨p.1, p.2, h1, h2⟩
  omega
theorem shapeOf_bd (t : List Nd) : shapeOf t = -1 ∨ (0 ≤ shapeOf t ∧ shapeOf t ≤ t.length) := by
  rcases shapeGo_bd t [lev0] 0 with h | h
  · exact .inl h
  · right
    unfold shapeOf
    constructor <;> omega
def wtUpTo (t : List Nd) : Nat → Int
  | 0 => 0
  | i + 1 => if (t.getD i zeroNd).op = 7 then max (wtUpTo t i) (behindOf t (i : Int) - i - 1) else wtUpTo t i
def weightOf (t : List Nd) : Int := if 0 ≤ shapeOf t then 0 else wtUpTo t t.length
theorem behind_bd (t : List Nd) (a : Int) : -1 ≤ behindOf t a ∧ behindOf t a ≤ t.length := by
  unfold behindOf
  split
  · omega
  · split
    · omega
    · rename_i r hr
      have := need_len _ _ _ hr
      rw [List.length_drop] at this
      omega
theorem wt_bd (t : List Nd) : ∀ i, 0 ≤ wtUpTo t i ∧ wtUpTo t i ≤ t.length
  | 0 => by simp only [wtUpTo]; omega
  | i + 1 => by
    have h := wt_bd t i
    have h2 := behind_bd t i
    simp only [wtUpTo]
    split <;> omega
noncomputable def checkE (t : List Nd) : Int := if 0 ≤ shapeOf t then 24 else if 64 < depthOf t then 23 else 0
def checkP (t : List Nd) : Int := if 0 ≤ shapeOf t then shapeOf t else 0
end Go.Proofs.Ytamienmbpdbnnaa.T

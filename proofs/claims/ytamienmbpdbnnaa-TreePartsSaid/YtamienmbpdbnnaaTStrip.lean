/- Where the nodes stand in a source says nothing: a tree with other places is as deep. In plain Lean. -/
import Derived.Test.YtamienmbpdbnnaaTSpec
namespace Go.Proofs.Ytamienmbpdbnnaa.T
open Go Go.RowKit
set_option linter.unusedVariables false
set_option linter.unusedSimpArgs false
def Nd.z (x : Nd) : Nd := ⟨x.op, x.kind, x.n, x.m, x.text, 0, x.kids⟩
def Fo.strip : Fo → Fo
  | .nil => .nil
  | .cons x k r => .cons x.z k.strip r.strip
theorem strip_flat : ∀ f : Fo, f.strip.flat = f.flat.map Nd.z
  | .nil => rfl
  | .cons x k r => by simp only [Fo.strip, Fo.flat, strip_flat k, strip_flat r, List.map_cons, List.map_append]
theorem strip_len : ∀ f : Fo, f.strip.len = f.len
  | .nil => rfl
  | .cons x k r => by simp only [Fo.strip, Fo.len, strip_len r]
def StripP (f : Fo) : Prop := (∀ d n, chainF f.strip d n = chainF f d n) ∧ (∀ op d, rowF op f.strip d = rowF op f d) ∧ (∀ op i d m, kidsMax op i d f.strip m = kidsMax op i d f m)
theorem open_strip {x : Nd} {k : Fo} (h : StripP k) (d : Int) : openT x.z k.strip d = openT x k d := by
  by_cases h49 : x.op = 49
  · rw [openT_field (x := x) h49, openT_field (x := x.z) h49, h.1]
  · cases hr : rowB x.op with
    | true => rw [openT_row (x := x) h49 hr, openT_row (x := x.z) h49 hr, h.2.1]; rfl
    | false => rw [openT_kids (x := x) h49 hr, openT_kids (x := x.z) h49 hr, h.2.2]; rfl
theorem strip_all : ∀ (n : Nat) (f : Fo), f.size ≤ n → StripP f := by
  intro n
  induction n with
  | zero =>
    intro f hf
    cases f with
    | nil => exact ⟨fun _ _ => rfl, fun _ _ => rfl, fun _ _ _ _ => rfl⟩
    | cons x k r => simp [Fo.size] at hf
  | succ n ih =>
    intro f hf
    cases f with
    | nil => exact ⟨fun _ _ => rfl, fun _ _ => rfl, fun _ _ _ _ => rfl⟩
    | cons x k r =>
      have hs : (Fo.cons x k r).size = 1 + k.size + r.size := rfl
      have hk := ih k (by omega)
      have hr := ih r (by omega)
      refine ⟨fun d m => ?_, fun op d => ?_, fun op i d m => ?_⟩
      · by_cases h49 : x.op = 49
        · rw [Fo.strip, chain_step (x := x) _ _ _ _ h49, chain_step (x := x.z) _ _ _ _ h49, hk.1]
        · rw [Fo.strip, chain_end (x := x) _ _ _ _ h49, chain_end (x := x.z) _ _ _ _ h49, open_strip hk]
          rfl
      · cases r with
        | nil =>
          rw [Fo.strip, Fo.strip, rowF, rowF]
          · intros; simp_all
          · intros; simp_all
        | cons q kq r =>
          have hq := ih kq (by have : (Fo.cons q kq r).size = 1 + kq.size + r.size := rfl; omega)
          rw [Fo.strip, Fo.strip, rowF_two, rowF_two]
          have e1 : x.z.op = x.op := rfl
          have e2 : q.z.op = q.op := rfl
          rw [e1, e2, hk.2.1, open_strip hk, open_strip hq]
      · rw [Fo.strip, kidsMax_cons, kidsMax_cons, hr.2.2]
        have e1 : x.z.op = x.op := rfl
        rw [e1, open_strip hk, open_strip hk]
theorem nodeOk_z {x : Nd} (h : 0 ≤ x.at_) (w : Int) : nodeOk x.z w = nodeOk x w := by
  unfold nodeOk
  have e : x.z.op = x.op := rfl
  rw [e]
  split
  · rfl
  · have e1 : decide (0 ≤ x.z.at_) = decide (0 ≤ x.at_) := by rw [decide_eq_true h]; rfl
    rw [e1]
    rfl
theorem levOf_z (x : Nd) : levOf x.z = levOf x := rfl
theorem shapeGo_strip : ∀ (l : List Nd) (s : List Lev) (i : Nat), (∀ x ∈ l, 0 ≤ x.at_) → shapeGo s i (l.map Nd.z) = shapeGo s i l := by
  intro l
  induction l with
  | nil => intro s i _; rfl
  | cons x l ih =>
    intro s i h
    simp only [List.map_cons, shapeGo]
    split
    · rfl
    · rw [nodeOk_z (h x (by simp)), levOf_z, ih _ _ (fun y hy => h y (List.mem_cons_of_mem _ hy))]
theorem OkF.at_nn : ∀ {f : Fo} {own : List Int} {rest : Int}, OkF own rest f → ∀ x ∈ f.flat, 0 ≤ x.at_
  | .nil, _, _, _, x, hx => by cases hx
  | .cons y k r, own, rest, ⟨h1, _, h3, h4⟩, x, hx => by
    simp only [Fo.flat, List.mem_cons, List.mem_append] at hx
    rcases hx with rfl | hx | hx
    · unfold nodeOk at h1
      split at h1
      · cases h1
      · simp only [Bool.and_eq_true, decide_eq_true_eq] at h1
        exact h1.1.1.1.2
    · exact OkF.at_nn h3 x hx
    · exact OkF.at_nn h4 x hx
/-- Two lists that differ in their places alone: what one is the other is. -/
theorem strip_same {t u : List Nd} (he : t.map Nd.z = u.map Nd.z) (hu : ∀ x ∈ u, 0 ≤ x.at_) (h : shapeOf t = -1) : shapeOf u = -1 ∧ depthOf u = depthOf t := by
  obtain ⟨x, k, e, hok⟩ := shape_tree.1 h
  have hat : ∀ y ∈ t, 0 ≤ y.at_ := by rw [e]; exact hok.at_nn
  have hsh : shapeOf u = -1 := by
    unfold shapeOf at h ⊢
    rw [← shapeGo_strip u _ _ hu, ← he, shapeGo_strip t _ _ hat]
    exact h
  refine ⟨hsh, ?_⟩
  obtain ⟨y, j, e2, hok2⟩ := shape_tree.1 hsh
  rw [depthOf_yes e hok, depthOf_yes e2 hok2]
  have hz : (Fo.cons x k .nil).strip.flat = (Fo.cons y j .nil).strip.flat := by rw [strip_flat, strip_flat, ← e, ← e2, he]
  have hw1 : ∀ f : Fo, f.wf → f.strip.wf := by
    intro f
    induction f with
    | nil => intro _; trivial
    | cons a b c ih1 ih2 => intro hf; exact ⟨by rw [strip_len]; exact hf.1, ih1 hf.2.1, ih2 hf.2.2⟩
  have h3 := flat_inj _ _ (hw1 _ hok.good.wf) (hw1 _ hok2.good.wf) rfl [] [] (by rw [List.append_nil, List.append_nil]; exact hz)
  simp only [Fo.strip, Fo.cons.injEq, and_true] at h3
  rw [← open_strip (strip_all k.size k (Nat.le_refl _)) (x := x), ← open_strip (strip_all j.size j (Nat.le_refl _)) (x := y), h3.1, h3.2]
/-- What follows of a tree's shape: behind it is the end; cut off, or gone on with, it is none. -/
theorem tree_behind {t : List Nd} (h : shapeOf t = -1) : behindOf t 0 = t.length := by
  obtain ⟨x, k, e, hok⟩ := shape_tree.1 h
  have hst : StandsAt t 0 (.cons x k .nil) := ⟨[], by rw [List.drop_zero, List.append_nil]; exact e⟩
  have h1 := stands_behind hst hok.2.1 hok.good.2.2.2.1.wf
  rw [show ((0 : Nat) : Int) = 0 from rfl] at h1
  rw [h1, e, Fo.size_flat]
  simp [Fo.size]
theorem tree_ne {t : List Nd} (h : shapeOf t = -1) : 0 < t.length := by
  obtain ⟨x, k, e, hok⟩ := shape_tree.1 h
  rw [e]
  simp [Fo.flat]
theorem tree_cut {t : List Nd} (h : shapeOf t = -1) : shapeOf (t.take (t.length - 1)) = ((t.length - 1 : Nat) : Int) := by
  have hn := tree_ne h
  have h1 := shapeGo_cut (t.take (t.length - 1)) (t.drop (t.length - 1)) [lev0] 0 (by
    intro e
    have := congrArg List.length e
    rw [List.length_drop] at this
    simp at this
    omega) (by rw [List.take_append_drop]; exact h)
  unfold shapeOf
  rw [h1, List.length_take]
  congr 1
  omega
theorem tree_more {t : List Nd} (x : Nd) (h : shapeOf t = -1) : shapeOf (t ++ [x]) = t.length := by
  have h1 := shapeGo_more t x [] [lev0] 0 h
  unfold shapeOf
  rw [h1]
  simp
end Go.Proofs.Ytamienmbpdbnnaa.T

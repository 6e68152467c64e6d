/- What is a tree by its shape is a forest of one, its nodes each where it may stand; what is cut off, or gone on with, is none. In plain Lean. -/
import Derived.Test.YtamienmbpdbnnaaTLevs
import Derived.Test.YtamienmbpdbnnaaTDepth
namespace Go.Proofs.Ytamienmbpdbnnaa.T
open Go Go.RowKit
set_option linter.unusedVariables false
set_option linter.unusedSimpArgs false
/-- Every node may stand where it stands. -/
def OkF : List Int → Int → Fo → Prop
  | _, _, .nil => True
  | own, rest, .cons x k r => nodeOk x (Lev.mk own rest 0).want = true ∧ x.kids = k.len ∧ OkF (levOf x).own (levOf x).rest k ∧ OkF own.tail rest r
def stackOk : List Lev → List Fo → Prop
  | [], [] => True
  | f :: s, F :: Fs => f.left = F.len ∧ OkF f.own f.rest F ∧ stackOk s Fs
  | _, _ => False
theorem lev_left (x : Nd) : (levOf x).left = x.kids := by
  unfold levOf
  split <;> rfl
theorem lev_want (f : Lev) (n : Int) : (Lev.mk f.own f.rest n).want = f.want := rfl
theorem nodeOk_kids {x : Nd} {w : Int} (h : nodeOk x w = true) : 0 ≤ x.kids := by
  unfold nodeOk at h
  split at h
  · cases h
  · rename_i r hr
    simp only [Bool.and_eq_true] at h
    have h1 := h.1.1.1.1.1.1.1
    unfold mayB at h1
    by_cases hk : x.kids < 0
    · rw [if_pos hk] at h1; cases h1
    · omega
theorem shape_stack : ∀ (l : List Nd) (s : List Lev) (i : Nat), (∀ f ∈ s, 0 ≤ f.left) → shapeGo s i l = -1 → ∃ Fs, stackOk s Fs ∧ l = Fs.flatMap Fo.flat := by
  intro l
  induction l with
  | nil =>
    intro s i hs h
    rw [shapeGo_end] at h
    split at h
    · rename_i hz
      clear h hs
      induction s with
      | nil => exact ⟨[], trivial, rfl⟩
      | cons f s ih =>
        obtain ⟨Fs, h1, h2⟩ := ih (fun g hg => hz g (List.mem_cons_of_mem _ hg))
        exact ⟨.nil :: Fs, ⟨by rw [hz f (by simp)]; rfl, trivial, h1⟩, by simp [Fo.flat, ← h2]⟩
    · omega
  | cons x l ih =>
    intro s
    induction s with
    | nil => intro i _ h; rw [shapeGo_empty] at h; omega
    | cons f s ihs =>
      intro i hs h
      by_cases hz : f.left = 0
      · rw [shapeGo_pop _ _ _ hz] at h
        obtain ⟨Fs, h1, h2⟩ := ihs i (fun g hg => hs g (List.mem_cons_of_mem _ hg)) h
        exact ⟨.nil :: Fs, ⟨by rw [hz]; rfl, trivial, h1⟩, by simp [Fo.flat, ← h2]⟩
      · rw [shapeGo_step _ _ _ _ hz] at h
        split at h
        · rename_i hok
          have hk := nodeOk_kids hok
          have hf := hs f (by simp)
          obtain ⟨Fs, h1, h2⟩ := ih (levOf x :: f.step :: s) (i + 1) (by
            intro g hg
            rcases List.mem_cons.1 hg with rfl | hg
            · rw [lev_left]; exact hk
            · rcases List.mem_cons.1 hg with rfl | hg
              · show 0 ≤ f.left - 1; omega
              · exact hs g (List.mem_cons_of_mem _ hg)) h
          match Fs, h1, h2 with
          | K :: R :: Fs, ⟨a1, a2, b1, b2, h1⟩, h2 =>
            refine ⟨.cons x K R :: Fs, ⟨?_, ⟨hok, ?_, a2, b2⟩, h1⟩, ?_⟩
            · have : f.left - 1 = R.len := b1
              simp only [Fo.len]
              omega
            · rw [← lev_left]; exact a1
            · rw [h2]; simp [Fo.flat]
        · omega
theorem stack_shape : ∀ (l : List Nd) (s : List Lev) (Fs : List Fo) (i : Nat), stackOk s Fs → l = Fs.flatMap Fo.flat → shapeGo s i l = -1 := by
  intro l
  induction l with
  | nil =>
    intro s Fs i h e
    rw [shapeGo_end, if_pos]
    clear i
    induction s generalizing Fs with
    | nil => intro f hf; cases hf
    | cons f s ih =>
      match Fs, h with
      | F :: Fs, ⟨a, b, c⟩ =>
        simp only [List.flatMap_cons] at e
        obtain ⟨e1, e2⟩ := List.append_eq_nil_iff.1 e.symm
        have hF : F = .nil := by
          cases F with
          | nil => rfl
          | cons x k r => simp [Fo.flat] at e1
        intro g hg
        rcases List.mem_cons.1 hg with rfl | hg
        · rw [a, hF]; rfl
        · exact ih Fs c e2.symm g hg
  | cons x l ih =>
    intro s
    induction s with
    | nil =>
      intro Fs i h e
      match Fs, h with
      | [], _ => cases e
    | cons f s ihs =>
      intro Fs i h e
      match Fs, h with
      | F :: Fs, ⟨a, b, c⟩ =>
        cases F with
        | nil =>
          rw [shapeGo_pop _ _ _ (by rw [a]; rfl)]
          exact ihs Fs i c (by simpa [Fo.flat] using e)
        | cons y K R =>
          simp only [List.flatMap_cons, Fo.flat, List.cons_append, List.cons.injEq] at e
          obtain ⟨rfl, e⟩ := e
          obtain ⟨hok, hk, h1, h2⟩ := b
          rw [shapeGo_step _ _ _ _ (by rw [a]; simp only [Fo.len]; omega), if_pos (show nodeOk x f.want = true from hok)]
          exact ih (levOf x :: f.step :: s) (K :: R :: Fs) (i + 1) ⟨by rw [lev_left]; exact hk, h1, by show f.left - 1 = R.len; rw [a]; simp only [Fo.len]; omega, h2, c⟩ (by rw [e]; simp)
/-- A tree by its shape is one node with its forest. -/
theorem shape_tree {t : List Nd} : shapeOf t = -1 ↔ ∃ x k, t = (Fo.cons x k .nil).flat ∧ OkF [0] 0 (.cons x k .nil) := by
  constructor
  · intro h
    obtain ⟨Fs, h1, h2⟩ := shape_stack t [lev0] 0 (by intro f hf; simp at hf; subst hf; decide) h
    match Fs, h1, h2 with
    | [F], ⟨a, b, _⟩, h2 =>
      match F, a, b, h2 with
      | .cons x k .nil, a, b, h2 => exact ⟨x, k, by simpa using h2, b⟩
      | .cons x k (.cons y kk r), a, b, h2 => simp [lev0, Fo.len] at a; omega
      | .nil, a, b, h2 => simp [lev0, Fo.len] at a
  · rintro ⟨x, k, e, h⟩
    exact stack_shape t [lev0] [.cons x k .nil] 0 ⟨rfl, h, trivial⟩ (by simpa using e)
theorem shapeGo_bd : ∀ (l : List Nd) (s : List Lev) (i : Nat), shapeGo s i l = -1 ∨ ((i : Int) ≤ shapeGo s i l ∧ shapeGo s i l ≤ i + l.length) := by
  intro l
  induction l with
  | nil => intro s i; rw [shapeGo_end]; split <;> simp
  | cons x l ih =>
    intro s i
    simp only [shapeGo]
    split
    · right; simp only [List.length_cons]; omega
    · split
      · rcases ih _ (i + 1) with h | h
        · exact .inl (by exact h)
        · right; simp only [List.length_cons]; omega
      · right; simp only [List.length_cons]; omega
/-- What goes on was none at its end. -/
theorem shapeGo_cut : ∀ (l m : List Nd) (s : List Lev) (i : Nat), m ≠ [] → shapeGo s i (l ++ m) = -1 → shapeGo s i l = ((i + l.length : Nat) : Int) := by
  intro l
  induction l with
  | nil =>
    intro m s i hm h
    cases m with
    | nil => exact absurd rfl hm
    | cons x m =>
      simp only [List.nil_append, shapeGo] at h
      simp only [shapeGo]
      split at h
      · omega
      · rename_i e
        rw [e]; simp
  | cons x l ih =>
    intro m s i hm h
    simp only [List.cons_append, shapeGo] at h ⊢
    split at h
    · omega
    · split at h
      · rename_i e hok
        have := ih m _ (i + 1) hm h
        rw [if_pos hok, this]
        simp only [List.length_cons]
        omega
      · omega
theorem shapeGo_more : ∀ (l : List Nd) (x : Nd) (m : List Nd) (s : List Lev) (i : Nat), shapeGo s i l = -1 → shapeGo s i (l ++ x :: m) = ((i + l.length : Nat) : Int) := by
  intro l
  induction l with
  | nil =>
    intro x m s i h
    rw [shapeGo_end] at h
    split at h
    · rename_i hz
      simp only [List.nil_append, shapeGo, popZ_nil.2 hz]
      simp
    · omega
  | cons y l ih =>
    intro x m s i h
    simp only [List.cons_append, shapeGo] at h ⊢
    split at h
    · omega
    · split at h
      · rename_i e hok
        rw [if_pos hok, ih x m _ (i + 1) h]
        simp only [List.length_cons]
        omega
      · omega
/-! ### What a tree's nodes are like, to whoever asks how deep -/
def Good : Fo → Prop
  | .nil => True
  | .cons x k r => x.kids = k.len ∧ (rowB x.op = true → k.len = 2) ∧ (x.op = 49 → k.len = 1) ∧ Good k ∧ Good r
theorem table_good : ∀ x ∈ table, (rowB x.1 = true → x.2.own.length = 2 ∧ x.2.least = 2 ∧ x.2.more = false) ∧ (x.1 = 49 → x.2.own.length = 1 ∧ x.2.least = 1 ∧ x.2.more = false) := by decide +kernel
theorem OkF.good : ∀ {f : Fo} {own : List Int} {rest : Int}, OkF own rest f → Good f
  | .nil, _, _, _ => trivial
  | .cons x k r, own, rest, ⟨h1, h2, h3, h4⟩ => by
    have hg : (rowB x.op = true → k.len = 2) ∧ (x.op = 49 → k.len = 1) := by
      unfold nodeOk at h1
      split at h1
      · cases h1
      · rename_i ro hr
        have ht := table_good _ (row_mem hr)
        simp only [Bool.and_eq_true] at h1
        have hm := h1.1.1.1.1.1.1.1
        unfold mayB at hm
        rw [if_neg (by have := h2; omega)] at hm
        constructor
        · intro hb
          obtain ⟨a, b, c⟩ := ht.1 hb
          rw [c, a, b] at hm
          simp at hm
          omega
        · intro hb
          obtain ⟨a, b, c⟩ := ht.2 hb
          rw [c, a, b] at hm
          simp at hm
          omega
    exact ⟨h2, hg.1, hg.2, OkF.good h3, OkF.good h4⟩
theorem Good.wf : ∀ {f : Fo}, Good f → f.wf
  | .nil, _ => trivial
  | .cons _ _ _, ⟨a, _, _, b, c⟩ => ⟨a, Good.wf b, Good.wf c⟩
end Go.Proofs.Ytamienmbpdbnnaa.T

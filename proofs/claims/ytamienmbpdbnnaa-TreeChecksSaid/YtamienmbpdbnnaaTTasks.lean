/- The tasks that tree.Depth keeps, and what they come to; in plain Lean. -/
import Derived.Test.YtamienmbpdbnnaaTForest
namespace Go.Proofs.Ytamienmbpdbnnaa.T
open Go Go.RowKit
set_option linter.unusedVariables false
set_option linter.unusedSimpArgs false
theorem StandsAt.one {t : List Nd} {p : Nat} {x : Nd} {k r : Fo} (h : StandsAt t p (.cons x k r)) : StandsAt t p (.cons x k .nil) := by
  obtain ⟨s, h⟩ := h
  exact ⟨r.flat ++ s, by rw [h]; simp [Fo.flat]⟩
theorem stands_behind {t : List Nd} {p : Nat} {x : Nd} {k r : Fo} (h : StandsAt t p (.cons x k r)) (hk : x.kids = k.len) (hw : k.wf) : behindOf t (p : Int) = ((p + 1 + k.size : Nat) : Int) := by
  have hl := h.get.1
  obtain ⟨s, h⟩ := h.one
  unfold behindOf
  rw [if_neg (by omega), Int.toNat_natCast, h]
  have h1 := forest_need (.cons x k .nil) ⟨hk, hw, trivial⟩ 0 s
  have h2 : (Fo.cons x k .nil).len + 0 = 1 := rfl
  rw [h2] at h1
  rw [h1, need]
  have hlen : (t.drop p).length = (1 + k.size) + s.length := by
    rw [h, List.length_append, Fo.size_flat]; rfl
  rw [List.length_drop] at hlen
  simp only
  omega
structure TT where
  p : Nat
  x : Nd
  k : Fo
  d : Int
  w : Int
def TT.cells (a : TT) : List Value := [.int .i64 a.p, .int .i64 a.d, .int .i64 a.w]
def TT.val (a : TT) : Int := openT a.x a.k (a.d + lowI a.x.op a.w)
def TT.size (a : TT) : Nat := 1 + a.k.size
structure TT.Ok (t : List Nd) (a : TT) : Prop where
  st : StandsAt t a.p (.cons a.x a.k .nil)
  good : Good (.cons a.x a.k .nil)
  d0 : 0 ≤ a.d
  dn : a.d + 3 * (1 + a.k.size : Nat) ≤ 3 * t.length
  w1 : 1 ≤ a.w
  w8 : a.w ≤ 8
def maxV : List TT → Int
  | [] => 0
  | a :: l => max a.val (maxV l)
theorem maxV_nn (l : List TT) : 0 ≤ maxV l := by
  induction l with
  | nil => exact Int.le_refl 0
  | cons a l ih => simp only [maxV]; omega
theorem maxV_append (l m : List TT) : maxV (l ++ m) = max (maxV l) (maxV m) := by
  induction l with
  | nil => simp only [List.nil_append, maxV]; have := maxV_nn m; omega
  | cons a l ih => simp only [List.cons_append, maxV, ih]; omega
theorem maxV_one (a : TT) : maxV [a] = max a.val 0 := rfl
def totS : List TT → Nat
  | [] => 0
  | a :: l => a.size + totS l
theorem totS_append (l m : List TT) : totS (l ++ m) = totS l + totS m := by
  induction l with
  | nil => simp [totS]
  | cons a l ih => simp only [List.cons_append, totS, ih]; omega
theorem totS_len (l : List TT) : l.length ≤ totS l := by
  induction l with
  | nil => exact Nat.le_refl 0
  | cons a l ih => simp only [List.length_cons, totS, TT.size]; omega
/-! ### What openT comes to, case by case -/
theorem inc_nn (op : Int) : 0 ≤ incI op ∧ incI op ≤ 1 := by unfold incI; split <;> omega
theorem low_nn (op w : Int) : 0 ≤ lowI op w ∧ lowI op w ≤ 1 := by unfold lowI; split <;> omega
theorem rank_ge (op : Int) : 1 ≤ rankOf op ∧ rankOf op ≤ 8 := by
  have := rank_bd op
  omega
theorem low_one (op : Int) : lowI op 1 = 0 := by
  have := rank_ge op
  unfold lowI
  rw [if_neg]
  simp
  omega
theorem chain_step {x : Nd} (k r : Fo) (d n : Int) (h : x.op = 49) : chainF (.cons x k r) d n = chainF k d (n + 1) := by rw [chainF, if_pos h]
theorem chain_end {x : Nd} (k r : Fo) (d n : Int) (h : x.op ≠ 49) : chainF (.cons x k r) d n = max (d + n - 1) (openT x k (d + lowI x.op 8)) := by rw [chainF, if_neg h]
theorem chain_ge : ∀ (f : Fo) (d n : Int), d + n - 1 ≤ chainF f d n := by
  intro f
  induction f with
  | nil => intro d n; rw [chainF]; exact Int.le_refl _
  | cons x k r ih _ =>
    intro d n
    by_cases h : x.op = 49
    · rw [chain_step k r d n h]; have := ih d (n + 1); omega
    · rw [chain_end k r d n h]; omega
theorem kidsMax_cons (op : Int) (i : Nat) (d : Int) (x : Nd) (k r : Fo) (m : Int) : kidsMax op i d (.cons x k r) m = kidsMax op (i + 1) d r (max m (if op = 13 ∧ i = 2 ∧ x.op = 13 then openT x k (d + 1) else openT x k (d + lowI x.op (wantsOf op i)))) := by rw [kidsMax]
theorem kidsMax_nil (op : Int) (i : Nat) (d m : Int) : kidsMax op i d .nil m = m := by rw [kidsMax]
theorem kidsMax_max (op d : Int) : ∀ (f : Fo) (i : Nat) (a m : Int), kidsMax op i d f (max a m) = max a (kidsMax op i d f m) := by
  intro f
  induction f with
  | nil => intro i a m; rw [kidsMax_nil, kidsMax_nil]
  | cons x k r _ ih => intro i a m; rw [kidsMax_cons, kidsMax_cons, ← ih, Int.max_assoc]
theorem kidsMax_ge (op d : Int) (f : Fo) (i : Nat) (m : Int) : m ≤ kidsMax op i d f m := by
  have := kidsMax_max op d f i m m
  rw [Int.max_self] at this
  omega
theorem openT_field {x : Nd} {k : Fo} {d : Int} (h : x.op = 49) : openT x k d = chainF k d 1 := by
  rw [openT, if_pos h]
  have : incI x.op = 0 := by rw [h]; decide
  rw [this, Int.add_zero]
theorem openT_kids {x : Nd} {k : Fo} {d : Int} (h : x.op ≠ 49) (hr : rowB x.op = false) : openT x k d = kidsMax x.op 0 (d + incI x.op) k (d + incI x.op) := by
  rw [openT, if_neg h, if_neg (by rw [hr]; simp)]
theorem openT_row {x : Nd} {k : Fo} {d : Int} (h : x.op ≠ 49) (hr : rowB x.op = true) : openT x k d = (rowF x.op k (d + incI x.op)).1 := by
  rw [openT, if_neg h, if_pos hr]
theorem rowF_two (op : Int) (l : Nd) (kl : Fo) (q : Nd) (kq r : Fo) (d : Int) : rowF op (.cons l kl (.cons q kq r)) d =
    (max (max d (if rankOf l.op = rankOf op then rowF l.op kl d else (openT l kl (d + lowI l.op (wantsOf op 0)), 0)).1) (openT q kq (d + (if rankOf l.op = rankOf op then rowF l.op kl d else (openT l kl (d + lowI l.op (wantsOf op 0)), 0)).2 + lowI q.op (wantsOf op 1))),
      (if rankOf l.op = rankOf op then rowF l.op kl d else (openT l kl (d + lowI l.op (wantsOf op 0)), 0)).2 + 1) := by rw [rowF]
theorem rowF_ge (op : Int) (f : Fo) (d : Int) : d ≤ (rowF op f d).1 := by
  match f with
  | .nil => rw [rowF]; exact Int.le_refl _; intros; contradiction
  | .cons l kl .nil => rw [rowF]; exact Int.le_refl _; intros; simp_all
  | .cons l kl (.cons q kq r) => rw [rowF_two]; simp only; omega
theorem openT_ge (x : Nd) (k : Fo) (d : Int) : d + incI x.op ≤ openT x k d := by
  by_cases h : x.op = 49
  · rw [openT_field h]
    have := chain_ge k d 1
    have h2 : incI x.op = 0 := by rw [h]; decide
    omega
  · cases hr : rowB x.op with
    | true => rw [openT_row h hr]; exact rowF_ge _ _ _
    | false => rw [openT_kids h hr]; exact kidsMax_ge _ _ _ _ _
theorem wants_hi (op : Int) {i : Nat} (h : i ≠ 0) : wantsOf op i = wantsOf op 1 := by
  have h1 : ¬ (i : Int) = 0 := by omega
  unfold wantsOf
  simp only [if_neg h1, show ¬ (1 : Int) = 0 by decide, if_false]
theorem wants_bd (op kid : Int) : 1 ≤ wantsOf op kid ∧ wantsOf op kid ≤ 8 := by
  have := rank_ge op
  unfold wantsOf
  simp only
  repeat' split
  all_goals omega
theorem rowB_iff (op : Int) : rowB op = true ↔ (rankOf op = 1 ∨ rankOf op = 2 ∨ rankOf op = 5 ∨ rankOf op = 6) := by
  unfold rowB
  simp only [Bool.and_eq_true, Bool.or_eq_true, beq_iff_eq]
  constructor
  · rintro ⟨_, h⟩; omega
  · intro h
    refine ⟨?_, by omega⟩
    unfold exprB
    simp only [decide_eq_true_eq]
    unfold rankOf at h
    repeat' split at h
    all_goals omega
theorem wants_congr {a b : Int} (h : rankOf a = rankOf b) (hb : rowB b = true) (kid : Int) : wantsOf a kid = wantsOf b kid := by
  rw [rowB_iff] at hb
  unfold wantsOf
  simp only [h]
  rw [if_pos hb, if_pos hb]
theorem rowB_of_rank {a b : Int} (h : rankOf a = rankOf b) (hb : rowB b = true) : rowB a = true := by rw [rowB_iff] at hb ⊢; rw [h]; exact hb
/-! ### Rows -/
/-- A row's right operands, the outermost ahead, each with its place; the forest of kids stands at p. -/
def rowTs (op : Int) (p : Nat) : Fo → List (Nat × Nd × Fo)
  | .cons l kl (.cons q kq _) => (p + 1 + kl.size, q, kq) :: (if rankOf l.op = rankOf op then rowTs op (p + 1) kl else [])
  | _ => []
/-- Its leftmost operand. -/
def rowL (op : Int) (p : Nat) : Fo → Nat × Nd × Fo
  | .cons l kl (.cons _ _ _) => if rankOf l.op = rankOf op then rowL op (p + 1) kl else (p, l, kl)
  | _ => (p, zeroNd, .nil)
def opsMax (op d : Int) : List (Nat × Nd × Fo) → Int
  | [] => d
  | a :: s => max (openT a.2.1 a.2.2 (d + s.length + lowI a.2.1.op (wantsOf op 1))) (opsMax op d s)
theorem opsMax_ge (op d : Int) (l : List (Nat × Nd × Fo)) : d ≤ opsMax op d l := by
  induction l with
  | nil => exact Int.le_refl _
  | cons a l ih => simp only [opsMax]; omega
theorem two_of {f : Fo} (h : f.len = 2) : ∃ l kl q kq, f = .cons l kl (.cons q kq .nil) := by
  match f, h with
  | .cons l kl (.cons q kq .nil), _ => exact ⟨_, _, _, _, rfl⟩
  | .nil, h => simp [Fo.len] at h
  | .cons l kl .nil, h => simp [Fo.len] at h
  | .cons l kl (.cons q kq (.cons a b c)), h => simp [Fo.len] at h
theorem one_of {f : Fo} (h : f.len = 1) : ∃ l kl, f = .cons l kl .nil := by
  match f, h with
  | .cons l kl .nil, _ => exact ⟨_, _, rfl⟩
  | .nil, h => simp [Fo.len] at h
  | .cons l kl (.cons q kq r), h => simp [Fo.len] at h
def ops2 (l : List (Nat × Nd × Fo)) : Nat := (l.map fun a => 1 + a.2.2.size).sum
theorem row_law (op d : Int) (hop : rowB op = true) (t : List Nd) : ∀ (n : Nat) (f : Fo) (p : Nat) (op1 : Int), rankOf op1 = rankOf op → f.size ≤ n → Good f → f.len = 2 → StandsAt t p f →
    rowF op1 f d = (max (max d (openT (rowL op p f).2.1 (rowL op p f).2.2 (d + lowI (rowL op p f).2.1.op (wantsOf op 0)))) (opsMax op d (rowTs op p f)), ((rowTs op p f).length : Int)) ∧
    (∀ a ∈ rowTs op p f, StandsAt t a.1 (.cons a.2.1 a.2.2 .nil) ∧ Good (.cons a.2.1 a.2.2 .nil)) ∧ (StandsAt t (rowL op p f).1 (.cons (rowL op p f).2.1 (rowL op p f).2.2 .nil) ∧ Good (.cons (rowL op p f).2.1 (rowL op p f).2.2 .nil)) ∧
    (rowTs op p f).length + ops2 (rowTs op p f) ≤ f.size ∧ 1 + (rowL op p f).2.2.size + ops2 (rowTs op p f) ≤ f.size := by
  intro n
  induction n with
  | zero =>
    intro f p op1 h1 hs hg hl
    obtain ⟨l, kl, q, kq, rfl⟩ := two_of hl
    simp [Fo.size] at hs
  | succ n ih =>
    intro f p op1 h1 hs hg hl hst
    obtain ⟨l, kl, q, kq, rfl⟩ := two_of hl
    have hq := hst.rest
    have gl : Good (.cons l kl .nil) := ⟨hg.1, hg.2.1, hg.2.2.1, hg.2.2.2.1, trivial⟩
    have gq : Good (.cons q kq .nil) := hg.2.2.2.2
    simp only [Fo.size] at hs
    by_cases hr : rankOf l.op = rankOf op
    · have hkl : kl.len = 2 := hg.2.1 (rowB_of_rank hr hop)
      obtain ⟨e, a1, a2, a3, a4⟩ := ih kl (p + 1) l.op hr (by omega) hg.2.2.2.1 hkl hst.kids
      have e1 : rowTs op p (.cons l kl (.cons q kq .nil)) = (p + 1 + kl.size, q, kq) :: rowTs op (p + 1) kl := by rw [rowTs, if_pos hr]
      have e2 : rowL op p (.cons l kl (.cons q kq .nil)) = rowL op (p + 1) kl := by rw [rowL, if_pos hr]
      rw [rowF_two, h1, if_pos hr, e, e1, e2, wants_congr h1 hop 1]
      refine ⟨?_, ?_, a2, ?_, ?_⟩
      · simp only [opsMax, List.length_cons, Prod.mk.injEq]
        have := opsMax_ge op d (rowTs op (p + 1) kl)
        constructor <;> omega
      · intro a ha
        rcases List.mem_cons.1 ha with rfl | ha
        · exact ⟨hq, gq⟩
        · exact a1 a ha
      · simp only [ops2, List.length_cons, List.map_cons, List.sum_cons, Fo.size] at a3 ⊢; omega
      · simp only [ops2, List.length_cons, List.map_cons, List.sum_cons, Fo.size] at a4 ⊢; omega
    · have e1 : rowTs op p (.cons l kl (.cons q kq .nil)) = [(p + 1 + kl.size, q, kq)] := by rw [rowTs, if_neg hr]
      have e2 : rowL op p (.cons l kl (.cons q kq .nil)) = (p, l, kl) := by rw [rowL, if_neg hr]
      rw [rowF_two, h1, if_neg hr, e1, e2, wants_congr h1 hop 0, wants_congr h1 hop 1]
      refine ⟨?_, ?_, ⟨hst.one, gl⟩, ?_, ?_⟩
      · simp only [opsMax, List.length_cons, List.length_nil, Prod.mk.injEq]
        constructor
        · simp only [Int.natCast_zero, Int.add_zero]; omega
        · rfl
      · intro a ha
        obtain rfl := List.mem_singleton.1 ha
        exact ⟨hq, gq⟩
      · simp only [ops2, List.length_cons, List.length_nil, List.map_cons, List.map_nil, List.sum_cons, List.sum_nil, Fo.size]; omega
      · simp only [ops2, List.map_cons, List.map_nil, List.sum_cons, List.sum_nil, Fo.size]; omega
/-- The tasks of a row's operands. -/
def rowTasks (d w : Int) (L : Nat) : Nat → List (Nat × Nd × Fo) → List TT
  | _, [] => []
  | i, a :: s => ⟨a.1, a.2.1, a.2.2, d + L - 1 - i, w⟩ :: rowTasks d w L (i + 1) s
theorem rowTasks_snoc (d w : Int) (L : Nat) : ∀ (l : List (Nat × Nd × Fo)) (i : Nat) (a : Nat × Nd × Fo), rowTasks d w L i (l ++ [a]) = rowTasks d w L i l ++ [⟨a.1, a.2.1, a.2.2, d + L - 1 - (i + l.length : Nat), w⟩] := by
  intro l
  induction l with
  | nil => intro i a; rfl
  | cons b l ih => intro i a; simp only [List.cons_append, rowTasks, ih, List.length_cons, show i + 1 + l.length = i + (l.length + 1) by omega]
theorem rowTasks_len (d w : Int) (L : Nat) : ∀ (l : List (Nat × Nd × Fo)) (i : Nat), (rowTasks d w L i l).length = l.length := by
  intro l
  induction l with
  | nil => intro i; rfl
  | cons b l ih => intro i; simp only [rowTasks, List.length_cons, ih]
theorem rowTasks_tot (d w : Int) (L : Nat) : ∀ (l : List (Nat × Nd × Fo)) (i : Nat), totS (rowTasks d w L i l) = ops2 l := by
  intro l
  induction l with
  | nil => intro i; rfl
  | cons b l ih => intro i; simp only [rowTasks, totS, ih, TT.size, ops2, List.map_cons, List.sum_cons]
theorem rowTasks_max (op d : Int) (hd : 0 ≤ d) (L : Nat) : ∀ (l : List (Nat × Nd × Fo)) (i : Nat), i + l.length = L → max d (maxV (rowTasks d (wantsOf op 1) L i l)) = opsMax op d l := by
  intro l
  induction l with
  | nil => intro i _; simp only [rowTasks, maxV, opsMax]; omega
  | cons b l ih =>
    intro i hi
    have h := ih (i + 1) (by simp at hi; omega)
    have e : d + L - 1 - i = d + (l.length : Int) := by simp at hi; omega
    simp only [rowTasks, maxV, opsMax, TT.val, e, ← h]
    omega
theorem rowTasks_ok {t : List Nd} {d w : Int} {L M : Nat} (hd : 0 ≤ d) (hw : 1 ≤ w ∧ w ≤ 8) (hM : d + 3 * M ≤ 3 * t.length) : ∀ (l : List (Nat × Nd × Fo)) (i : Nat), (∀ a ∈ l, StandsAt t a.1 (.cons a.2.1 a.2.2 .nil) ∧ Good (.cons a.2.1 a.2.2 .nil)) → i + l.length = L → L + ops2 l ≤ M → ∀ a ∈ rowTasks d w L i l, a.Ok t := by
  intro l
  induction l with
  | nil => intro i _ _ _ a ha; cases ha
  | cons b l ih =>
    intro i h hi hM2 a ha
    simp only [ops2, List.map_cons, List.sum_cons, List.length_cons] at hM2 hi
    rcases List.mem_cons.1 ha with rfl | ha
    · obtain ⟨h1, h2⟩ := h b (by simp)
      refine ⟨h1, h2, ?_, ?_, hw.1, hw.2⟩
      · show 0 ≤ d + L - 1 - i; omega
      · show d + L - 1 - i + 3 * (1 + b.2.2.size : Nat) ≤ 3 * t.length; omega
    · exact ih (i + 1) (fun c hc => h c (List.mem_cons_of_mem _ hc)) (by omega) (by simp only [ops2]; omega) a ha
/-! ### A kid of the others -/
def kidTask (op : Int) (p i : Nat) (d : Int) (x : Nd) (k : Fo) : TT := ⟨p, x, k, if op = 13 ∧ i = 2 ∧ x.op = 13 then d + 1 else d, if i = 0 then wantsOf op 0 else wantsOf op 1⟩
theorem kidTask_val (op : Int) (p i : Nat) (d : Int) (x : Nd) (k : Fo) : (kidTask op p i d x k).val = if op = 13 ∧ i = 2 ∧ x.op = 13 then openT x k (d + 1) else openT x k (d + lowI x.op (wantsOf op i)) := by
  unfold kidTask TT.val
  simp only
  by_cases h : op = 13 ∧ i = 2 ∧ x.op = 13
  · rw [if_pos h, if_pos h, if_neg (by omega), h.1]
    have : lowI x.op (wantsOf 13 1) = 0 := low_one _
    rw [this, Int.add_zero]
  · rw [if_neg h, if_neg h]
    by_cases hi : i = 0
    · rw [if_pos hi, hi]; rfl
    · rw [if_neg hi, wants_hi op hi]
theorem kids_step (op : Int) (p i : Nat) (d : Int) (x : Nd) (k r : Fo) (m : Int) : kidsMax op i d (.cons x k r) m = kidsMax op (i + 1) d r (max m (kidTask op p i d x k).val) := by
  rw [kidsMax_cons, kidTask_val]
end Go.Proofs.Ytamienmbpdbnnaa.T

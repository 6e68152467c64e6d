/- A block within others is so much deeper and so much heavier; rows of marks, leaning left and right. In plain Lean. -/
import Derived.Test.YtamienmbpdbnnaaTStrip
namespace Go.Proofs.Ytamienmbpdbnnaa.T
open Go Go.RowKit
set_option linter.unusedVariables false
set_option linter.unusedSimpArgs false
/-! ### So much more around it: so much deeper -/
def ShiftP (f : Fo) : Prop := (∀ d n e, chainF f (d + e) n = chainF f d n + e) ∧ (∀ op d e, rowF op f (d + e) = ((rowF op f d).1 + e, (rowF op f d).2)) ∧ (∀ op i d m e, kidsMax op i (d + e) f (m + e) = kidsMax op i d f m + e)
theorem open_shift {x : Nd} {k : Fo} (h : ShiftP k) (d e : Int) : openT x k (d + e) = openT x k d + e := by
  by_cases h49 : x.op = 49
  · rw [openT_field h49, openT_field h49, h.1]
  · cases hr : rowB x.op with
    | true => rw [openT_row h49 hr, openT_row h49 hr, show d + e + incI x.op = d + incI x.op + e by omega, h.2.1]
    | false => rw [openT_kids h49 hr, openT_kids h49 hr, show d + e + incI x.op = d + incI x.op + e by omega, h.2.2]
theorem shift_all : ∀ (n : Nat) (f : Fo), f.size ≤ n → ShiftP f := by
  have base : ShiftP .nil := ⟨fun d n e => by rw [chainF, chainF]; omega, fun op d e => by rw [rowF, rowF] <;> (intros; simp_all), fun op i d m e => by rw [kidsMax_nil, kidsMax_nil]⟩
  intro n
  induction n with
  | zero =>
    intro f hf
    cases f with
    | nil => exact base
    | cons x k r => simp [Fo.size] at hf
  | succ n ih =>
    intro f hf
    cases f with
    | nil => exact base
    | cons x k r =>
      have hs : (Fo.cons x k r).size = 1 + k.size + r.size := rfl
      have hk := ih k (by omega)
      have hr := ih r (by omega)
      refine ⟨fun d m e => ?_, fun op d e => ?_, fun op i d m e => ?_⟩
      · by_cases h49 : x.op = 49
        · rw [chain_step _ _ _ _ h49, chain_step _ _ _ _ h49, hk.1]
        · rw [chain_end _ _ _ _ h49, chain_end _ _ _ _ h49, show d + e + lowI x.op 8 = d + lowI x.op 8 + e by omega, open_shift hk]
          omega
      · cases r with
        | nil =>
          rw [rowF, rowF]
          · intros; simp_all
          · intros; simp_all
        | cons q kq r =>
          have hq := ih kq (by have : (Fo.cons q kq r).size = 1 + kq.size + r.size := rfl; omega)
          rw [rowF_two, rowF_two, hk.2.1, show d + e + lowI x.op (wantsOf op 0) = d + lowI x.op (wantsOf op 0) + e by omega, open_shift hk]
          by_cases hrk : rankOf x.op = rankOf op
          · simp only [if_pos hrk]
            rw [show d + e + (rowF x.op k d).2 + lowI q.op (wantsOf op 1) = d + (rowF x.op k d).2 + lowI q.op (wantsOf op 1) + e by omega, open_shift hq]
            refine Prod.ext ?_ rfl
            simp only
            omega
          · simp only [if_neg hrk]
            rw [show d + e + 0 + lowI q.op (wantsOf op 1) = d + 0 + lowI q.op (wantsOf op 1) + e by omega, open_shift hq]
            refine Prod.ext ?_ rfl
            simp only
            omega
      · rw [kidsMax_cons, kidsMax_cons, show d + e + 1 = d + 1 + e by omega, show d + e + lowI x.op (wantsOf op i) = d + lowI x.op (wantsOf op i) + e by omega, open_shift hk (d + 1) e, open_shift hk (d + lowI x.op (wantsOf op i)) e, ← hr.2.2]
        congr 1
        split <;> omega
theorem open_plus (x : Nd) (k : Fo) (d : Int) : openT x k d = openT x k 0 + d := by
  have := open_shift (x := x) (shift_all k.size k (Nat.le_refl _)) 0 d
  rwa [Int.zero_add] at this
/-! ### The nodes around a block -/
def pkN : Nd := ⟨1, 0, 0, 0, ⟨#[]⟩, 0, 1⟩
def cdN : Nd := ⟨2, 0, 0, 0, ⟨#[97]⟩, 0, 1⟩
def onN (k : Int) : Nd := ⟨7, 0, 0, 0, ⟨#[]⟩, 0, k⟩
def blN (k : Int) : Nd := ⟨10, 0, 0, 0, ⟨#[]⟩, 0, k⟩
def ifN (k : Int) : Nd := ⟨13, 0, 0, 0, ⟨#[]⟩, 0, k⟩
def repN (i : Int) : Nd := ⟨14, 0, i, 0, ⟨#[105]⟩, 0, 1⟩
def trN : Nd := ⟨31, 0, 0, 0, ⟨#[]⟩, 0, 0⟩
def faN : Nd := ⟨32, 0, 0, 0, ⟨#[]⟩, 0, 0⟩
def numN (i : Int) : Nd := ⟨30, 0, i, 0, ⟨#[]⟩, 0, 0⟩
def opN (op : Int) : Nd := ⟨op, 0, 0, 0, ⟨#[]⟩, 0, 2⟩
/-- A tree. -/
abbrev Tr := Nd × Fo
def Tr.fo (X : Tr) : Fo := .cons X.1 X.2 .nil
def Tr.flat (X : Tr) : List Nd := X.fo.flat
def Tr.deep (X : Tr) : Int := openT X.1 X.2 0
/-- A tree that may stand where that is wanted. -/
def Tr.ok (w : Int) (X : Tr) : Prop := OkF [w] 0 X.fo
theorem okF_cons {own : List Int} {rest : Int} {X : Tr} {r : Fo} {w : Int} (hw : (Lev.mk own rest 0).want = w) (h : X.ok w) (hr : OkF own.tail rest r) : OkF own rest (.cons X.1 X.2 r) := by
  obtain ⟨h1, h2, h3, _⟩ := h
  refine ⟨?_, h2, h3, hr⟩
  rw [hw]
  exact h1
theorem Tr.ok.node {X : Tr} {w : Int} (h : X.ok w) : nodeOk X.1 w = true := h.1
theorem block_op {X : Tr} (h : X.ok 4) : X.1.op = 10 := by
  have h1 := h.node
  unfold nodeOk at h1
  split at h1
  · cases h1
  · simp only [Bool.and_eq_true] at h1
    have h2 := h1.1.1.1.1.1.1.2
    unfold takesB at h2
    simpa using h2
theorem block_deep {X : Tr} (h : X.ok 4) : 1 ≤ X.deep := by
  have h1 := openT_ge X.1 X.2 0
  rw [block_op h] at h1
  have : incI 10 = 1 := by decide
  unfold Tr.deep
  omega
theorem flat_cons (x : Nd) (k : Fo) (r : Fo) : (Fo.cons x k r).flat = x :: (k.flat ++ r.flat) := rfl
def wrapIf (X : Tr) : Tr := (blN 1, .cons (ifN 2) (.cons trN .nil X.fo) .nil)
def wrapRep (i : Int) (X : Tr) : Tr := (blN 1, .cons (repN i) X.fo .nil)
def elseC : Nat → Tr → Tr
  | 0, X => X
  | n + 1, X => (ifN 3, .cons faN .nil (.cons (blN 0) .nil (elseC n X).fo))
def wrapElse (n : Nat) (X : Tr) : Tr := if n = 0 then X else (blN 1, (elseC n X).fo)
def repsF : List Int → Tr → Tr
  | [], X => X
  | i :: l, X => wrapRep i (repsF l X)
def ifsF : Nat → Tr → Tr
  | 0, X => X
  | n + 1, X => wrapIf (ifsF n X)
theorem wrapIf_flat (X : Tr) : (wrapIf X).flat = [blN 1, ifN 2, trN] ++ X.flat := by simp [wrapIf, Tr.flat, Tr.fo, Fo.flat]
theorem wrapRep_flat (i : Int) (X : Tr) : (wrapRep i X).flat = [blN 1, repN i] ++ X.flat := by simp [wrapRep, Tr.flat, Tr.fo, Fo.flat]
theorem ifsF_flat (X : Tr) : ∀ n, (ifsF n X).flat = (List.range n).flatMap (fun _ => [blN 1, ifN 2, trN]) ++ X.flat
  | 0 => by simp [ifsF]
  | n + 1 => by
    rw [ifsF, wrapIf_flat, ifsF_flat X n, List.range_succ_eq_map, List.flatMap_cons, List.flatMap_map]
    simp
theorem repsF_flat (X : Tr) : ∀ l, (repsF l X).flat = l.flatMap (fun i => [blN 1, repN i]) ++ X.flat
  | [] => by simp [repsF]
  | i :: l => by rw [repsF, wrapRep_flat, repsF_flat X l]; simp
theorem elseC_flat (X : Tr) : ∀ n, (elseC n X).flat = (List.range n).flatMap (fun _ => [ifN 3, faN, blN 0]) ++ X.flat
  | 0 => by simp [elseC]
  | n + 1 => by
    have e : (elseC (n + 1) X).flat = [ifN 3, faN, blN 0] ++ (elseC n X).flat := by simp [elseC, Tr.flat, Tr.fo, Fo.flat]
    rw [e, elseC_flat X n, List.range_succ_eq_map, List.flatMap_cons, List.flatMap_map]
    simp
theorem node_if2 : nodeOk (ifN 2) 5 = true := by decide +kernel
theorem node_if3 : nodeOk (ifN 3) 5 = true := by decide +kernel
theorem node_if6 : nodeOk (ifN 3) 6 = true := by decide +kernel
theorem node_bl1 : nodeOk (blN 1) 4 = true := by decide +kernel
theorem node_bl0 : nodeOk (blN 0) 4 = true := by decide +kernel
theorem node_tr : nodeOk trN 3 = true := by decide +kernel
theorem node_fa : nodeOk faN 3 = true := by decide +kernel
theorem node_rep {i : Int} (h0 : 0 ≤ i) (h1 : i ≤ 9223372036854775807) : nodeOk (repN i) 5 = true := by
  unfold nodeOk
  rw [show rowOf (repN i).op = some ⟨2, 9223372036854775807, [4], 1, false, 0⟩ from by show rowOf 14 = _; decide +kernel]
  have e1 : mayB ⟨2, 9223372036854775807, [4], 1, false, 0⟩ (repN i).kids = true := by show mayB _ 1 = true; decide +kernel
  have e2 : takesB 5 (repN i).op = true := by show takesB 5 14 = true; decide +kernel
  have e3 : textOk 2 (repN i).text.data.toList = true := by show textOk 2 [105] = true; decide +kernel
  simp only [e1, e2, e3]
  simp [repN, h0, h1]
theorem node_num {i : Int} (h0 : 0 ≤ i) (h1 : i ≤ 9223372036854775807) : nodeOk (numN i) 3 = true := by
  unfold nodeOk
  rw [show rowOf (numN i).op = some ⟨0, 9223372036854775807, [], 0, false, 0⟩ from by show rowOf 30 = _; decide +kernel]
  have e1 : mayB ⟨0, 9223372036854775807, [], 0, false, 0⟩ (numN i).kids = true := by show mayB _ 0 = true; decide +kernel
  have e2 : takesB 3 (numN i).op = true := by show takesB 3 30 = true; decide +kernel
  have e3 : textOk 0 (numN i).text.data.toList = true := by show textOk 0 [] = true; decide +kernel
  simp only [e1, e2, e3]
  simp [numN, h0, h1]
theorem lev_if2 : levOf (ifN 2) = ⟨[3, 4], 0, 2⟩ := by rfl
theorem lev_if3 : levOf (ifN 3) = ⟨[3, 4, 6], 0, 3⟩ := by rfl
theorem lev_bl (k : Int) : levOf (blN k) = ⟨[], 5, k⟩ := by rfl
theorem lev_rep (i : Int) : levOf (repN i) = ⟨[4], 0, 1⟩ := by rfl
theorem lev_tr : levOf trN = ⟨[], 0, 0⟩ := by rfl
theorem lev_fa : levOf faN = ⟨[], 0, 0⟩ := by rfl
theorem takes_other {X : Tr} (h : X.ok 4) : X.ok 6 := by
  refine ⟨?_, h.2.1, h.2.2.1, trivial⟩
  have h1 := h.node
  have ho := block_op h
  show nodeOk X.1 6 = true
  unfold nodeOk at h1 ⊢
  have e : takesB 6 X.1.op = takesB 4 X.1.op := by rw [ho]; decide
  rw [e]
  exact h1
theorem wrapIf_ok {X : Tr} (h : X.ok 4) : (wrapIf X).ok 4 := by
  refine ⟨node_bl1, rfl, ?_, trivial⟩
  show OkF (levOf (blN 1)).own (levOf (blN 1)).rest _
  rw [lev_bl]
  refine ⟨node_if2, rfl, ?_, trivial⟩
  rw [lev_if2]
  exact ⟨node_tr, rfl, trivial, okF_cons rfl h trivial⟩
theorem wrapRep_ok {X : Tr} {i : Int} (h0 : 0 ≤ i) (h1 : i ≤ 9223372036854775807) (h : X.ok 4) : (wrapRep i X).ok 4 := by
  refine ⟨node_bl1, rfl, ?_, trivial⟩
  show OkF (levOf (blN 1)).own (levOf (blN 1)).rest _
  rw [lev_bl]
  refine ⟨node_rep h0 h1, rfl, ?_, trivial⟩
  rw [lev_rep]
  exact okF_cons rfl h trivial
theorem elseC_okS {X : Tr} (h : X.ok 4) (w : Int) (hw : nodeOk (ifN 3) w = true) (n : Nat) (ih : (elseC n X).ok 6) : (elseC (n + 1) X).ok w := by
  refine ⟨hw, rfl, ?_, trivial⟩
  show OkF (levOf (ifN 3)).own (levOf (ifN 3)).rest _
  rw [lev_if3]
  exact ⟨node_fa, rfl, trivial, node_bl0, rfl, trivial, okF_cons rfl ih trivial⟩
theorem elseC_ok6 {X : Tr} (h : X.ok 4) : ∀ n, (elseC n X).ok 6
  | 0 => takes_other h
  | n + 1 => elseC_okS h 6 node_if6 n (elseC_ok6 h n)
theorem wrapElse_ok {X : Tr} (h : X.ok 4) (n : Nat) : (wrapElse n X).ok 4 := by
  unfold wrapElse
  cases n with
  | zero => rw [if_pos rfl]; exact h
  | succ n =>
    rw [if_neg (by omega)]
    refine ⟨node_bl1, rfl, ?_, trivial⟩
    show OkF (levOf (blN 1)).own (levOf (blN 1)).rest _
    rw [lev_bl]
    exact okF_cons rfl (elseC_okS h 5 node_if3 n (elseC_ok6 h n)) trivial
theorem ifsF_ok {X : Tr} (h : X.ok 4) : ∀ n, (ifsF n X).ok 4
  | 0 => h
  | n + 1 => wrapIf_ok (ifsF_ok h n)
theorem repsF_ok {X : Tr} (h : X.ok 4) : ∀ l : List Int, (∀ i ∈ l, 0 ≤ i ∧ i ≤ 9223372036854775807) → (repsF l X).ok 4
  | [], _ => h
  | i :: l, hl => wrapRep_ok (hl i (by simp)).1 (hl i (by simp)).2 (repsF_ok h l (fun j hj => hl j (List.mem_cons_of_mem _ hj)))
/-! ### How deep -/
theorem open_leaf {x : Nd} (h49 : x.op ≠ 49) (hr : rowB x.op = false) (d : Int) : openT x .nil d = d + incI x.op := by rw [openT_kids h49 hr, kidsMax_nil]
theorem open_tr (d : Int) : openT trN .nil d = d := by rw [open_leaf (by decide) (by decide), show incI trN.op = 0 by decide, Int.add_zero]
theorem open_fa (d : Int) : openT faN .nil d = d := by rw [open_leaf (by decide) (by decide), show incI faN.op = 0 by decide, Int.add_zero]
theorem open_bl0 (d : Int) : openT (blN 0) .nil d = d + 1 := by rw [open_leaf (by decide) (by decide), show incI (blN 0).op = 1 by decide]
theorem open_num (i d : Int) : openT (numN i) .nil d = d := by rw [open_leaf (show (30 : Int) ≠ 49 by decide) (show rowB 30 = false by decide), show incI (numN i).op = 0 from (show incI 30 = 0 by decide), Int.add_zero]
theorem low_block (w : Int) : lowI 10 w = 0 := by
  unfold lowI
  rw [if_neg]
  simp [exprB]
theorem kids_one (op d : Int) (X : Tr) (m : Int) (h13 : op ≠ 13) (hl : lowI X.1.op (wantsOf op 0) = 0) : kidsMax op 0 d X.fo m = max m (X.deep + d) := by
  unfold Tr.fo Tr.deep
  rw [kidsMax_cons, kidsMax_nil, if_neg (by simp)]
  have e : ((0 : Nat) : Int) = 0 := rfl
  rw [e, hl, Int.add_zero, open_plus X.1 X.2 d]
theorem wrapIf_deep {X : Tr} (h : X.ok 4) : (wrapIf X).deep = X.deep + 1 := by
  have hd := block_deep h
  have ho := block_op h
  have e1 : openT (ifN 2) (.cons trN .nil X.fo) 1 = X.deep + 1 := by
    rw [openT_kids (by decide) (by decide), show incI (ifN 2).op = 0 by decide, Int.add_zero, kidsMax_cons, Tr.fo, kidsMax_cons, kidsMax_nil]
    simp only [ho]
    have : lowI trN.op (wantsOf (ifN 2).op ((0 : Nat) : Int)) = 0 := by decide
    rw [if_neg (by decide), if_neg (by decide), low_block, this, Int.add_zero, open_tr, open_plus X.1 X.2 1]
    unfold Tr.deep at hd ⊢
    omega
  unfold Tr.deep wrapIf
  simp only
  rw [openT_kids (by decide) (by decide), show incI (blN 1).op = 1 by decide, kidsMax_cons, kidsMax_nil, if_neg (by decide)]
  have : lowI (ifN 2).op (wantsOf (blN 1).op ((0 : Nat) : Int)) = 0 := by decide
  rw [this]
  simp only [Int.zero_add, Int.add_zero]
  rw [e1]
  unfold Tr.deep at hd ⊢
  omega
theorem wrapRep_deep {X : Tr} (i : Int) (h : X.ok 4) : (wrapRep i X).deep = X.deep + 1 := by
  have hd := block_deep h
  have ho := block_op h
  have e1 : openT (repN i) X.fo 1 = X.deep + 1 := by
    rw [openT_kids (show (14 : Int) ≠ 49 by decide) (show rowB 14 = false by decide), show incI (repN i).op = 0 from (show incI 14 = 0 by decide), Int.add_zero, kids_one (repN i).op _ _ _ (show (14 : Int) ≠ 13 by decide) (by rw [ho]; exact low_block _)]
    omega
  unfold Tr.deep wrapRep
  simp only
  rw [openT_kids (by decide) (by decide), show incI (blN 1).op = 1 by decide, kidsMax_cons, kidsMax_nil, if_neg (by simp [blN])]
  have : lowI (repN i).op (wantsOf (blN 1).op ((0 : Nat) : Int)) = 0 := (show lowI 14 (wantsOf 10 0) = 0 by decide)
  rw [this]
  simp only [Int.zero_add, Int.add_zero]
  rw [e1]
  unfold Tr.deep at hd ⊢
  omega
theorem elseC_deep {X : Tr} (h : X.ok 4) : ∀ n, (elseC (n + 1) X).deep = X.deep + n := by
  have hd := block_deep h
  have ho := block_op h
  have e0 : lowI faN.op (wantsOf (ifN 3).op ((0 : Nat) : Int)) = 0 := by decide
  have e1 : lowI (blN 0).op (wantsOf (ifN 3).op ((0 + 1 : Nat) : Int)) = 0 := by decide
  intro n
  induction n with
  | zero =>
    unfold Tr.deep elseC elseC
    simp only
    rw [openT_kids (by decide) (by decide), show incI (ifN 3).op = 0 by decide, Int.add_zero, kidsMax_cons, kidsMax_cons, Tr.fo, kidsMax_cons, kidsMax_nil, if_neg (by decide), if_neg (by decide), if_neg (by rw [ho]; decide), e0, e1, ho, low_block, Int.add_zero, open_fa, open_bl0]
    unfold Tr.deep at hd
    simp only [Int.natCast_zero, Int.add_zero]
    omega
  | succ n ih =>
    have e2 : (elseC (n + 1) X).1.op = 13 := rfl
    have e3 : elseC (n + 2) X = (ifN 3, .cons faN .nil (.cons (blN 0) .nil (elseC (n + 1) X).fo)) := rfl
    rw [e3]
    unfold Tr.deep at ih ⊢
    simp only
    rw [openT_kids (by decide) (by decide), show incI (ifN 3).op = 0 by decide, Int.add_zero, kidsMax_cons, kidsMax_cons, Tr.fo, kidsMax_cons, kidsMax_nil, if_neg (by decide), if_neg (by decide), if_pos ⟨rfl, rfl, e2⟩, e0, e1, Int.add_zero, open_fa, open_bl0, Int.zero_add, open_plus _ _ 1, ih]
    unfold Tr.deep at hd
    omega
theorem wrapElse_deep {X : Tr} (h : X.ok 4) (n : Nat) : (wrapElse n X).deep = X.deep + n := by
  have hd := block_deep h
  unfold wrapElse
  cases n with
  | zero => rw [if_pos rfl]; simp
  | succ n =>
    rw [if_neg (by omega)]
    have e := elseC_deep h n
    have e2 : (elseC (n + 1) X).1.op = 13 := rfl
    show openT (blN 1) (elseC (n + 1) X).fo 0 = _
    rw [openT_kids (by decide) (by decide), show incI (blN 1).op = 1 by decide, kids_one _ _ _ _ (by decide) (by rw [e2]; decide), e]
    omega
theorem ifsF_deep {X : Tr} (h : X.ok 4) : ∀ n : Nat, (ifsF n X).deep = X.deep + n
  | 0 => by simp [ifsF]
  | n + 1 => by rw [ifsF, wrapIf_deep (ifsF_ok h n), ifsF_deep h n]; omega
theorem repsF_deep {X : Tr} (h : X.ok 4) : ∀ l : List Int, (∀ i ∈ l, 0 ≤ i ∧ i ≤ 9223372036854775807) → (repsF l X).deep = X.deep + l.length
  | [], _ => by simp [repsF]
  | i :: l, hl => by
    have hl' : ∀ j ∈ l, 0 ≤ j ∧ j ≤ 9223372036854775807 := fun j hj => hl j (List.mem_cons_of_mem _ hj)
    rw [repsF, wrapRep_deep i (repsF_ok h l hl'), repsF_deep h l hl', List.length_cons]
    omega
/-! ### The pack of a card with one ability -/
def pack1 (X : Tr) : Tr := (pkN, .cons cdN (.cons (onN 1) X.fo .nil) .nil)
def pack2 (E X : Tr) : Tr := (pkN, .cons cdN (.cons (onN 2) (.cons E.1 E.2 X.fo) .nil) .nil)
def one1 (block : List Nd) : List Nd := [pkN, cdN, onN 1] ++ block
def one2 (when_ block : List Nd) : List Nd := [pkN, cdN, onN 2] ++ when_ ++ block
theorem pack1_flat (X : Tr) : (pack1 X).flat = one1 X.flat := by simp [pack1, one1, Tr.flat, Tr.fo, Fo.flat]
theorem pack2_flat (E X : Tr) : (pack2 E X).flat = one2 E.flat X.flat := by simp [pack2, one2, Tr.flat, Tr.fo, Fo.flat]
theorem node_pk : nodeOk pkN 0 = true := by decide +kernel
theorem node_cd : nodeOk cdN 1 = true := by decide +kernel
theorem node_on1 : nodeOk (onN 1) 2 = true := by decide +kernel
theorem node_on2 : nodeOk (onN 2) 2 = true := by decide +kernel
theorem lev_pk : levOf pkN = ⟨[], 1, 1⟩ := by rfl
theorem lev_cd : levOf cdN = ⟨[], 2, 1⟩ := by rfl
theorem lev_on1 : levOf (onN 1) = ⟨[4], 0, 1⟩ := by rfl
theorem lev_on2 : levOf (onN 2) = ⟨[3, 4], 0, 2⟩ := by rfl
theorem pack1_ok {X : Tr} (h : X.ok 4) : (pack1 X).ok 0 := by
  refine ⟨node_pk, rfl, ?_, trivial⟩
  show OkF (levOf pkN).own (levOf pkN).rest _
  rw [lev_pk]
  refine ⟨node_cd, rfl, ?_, trivial⟩
  rw [lev_cd]
  refine ⟨node_on1, rfl, ?_, trivial⟩
  rw [lev_on1]
  exact okF_cons rfl h trivial
theorem pack2_ok {E X : Tr} (hE : E.ok 3) (h : X.ok 4) : (pack2 E X).ok 0 := by
  refine ⟨node_pk, rfl, ?_, trivial⟩
  show OkF (levOf pkN).own (levOf pkN).rest _
  rw [lev_pk]
  refine ⟨node_cd, rfl, ?_, trivial⟩
  rw [lev_cd]
  refine ⟨node_on2, rfl, ?_, trivial⟩
  rw [lev_on2]
  exact okF_cons rfl hE (okF_cons rfl h trivial)
theorem pack_up (F : Fo) (k : Int) (D : Int) (h0 : 0 ≤ D) (h : openT (onN k) F 0 = D) : openT pkN (.cons cdN (.cons (onN k) F .nil) .nil) 0 = D := by
  have e2 : lowI (onN k).op (wantsOf cdN.op ((0 : Nat) : Int)) = 0 := (show lowI 7 (wantsOf 2 0) = 0 by decide)
  have e1 : lowI cdN.op (wantsOf pkN.op ((0 : Nat) : Int)) = 0 := by decide
  have a1 : openT cdN (.cons (onN k) F .nil) 0 = D := by
    rw [openT_kids (by decide) (by decide), show incI cdN.op = 0 by decide, kidsMax_cons, kidsMax_nil, if_neg (by simp [cdN]), e2]
    simp only [Int.add_zero]
    rw [h]
    omega
  rw [openT_kids (by decide) (by decide), show incI pkN.op = 0 by decide, kidsMax_cons, kidsMax_nil, if_neg (by decide), e1]
  simp only [Int.add_zero]
  rw [a1]
  omega
theorem pack1_deep {X : Tr} (h : X.ok 4) : (pack1 X).deep = X.deep := by
  have hd := block_deep h
  refine pack_up X.fo 1 X.deep (by omega) ?_
  rw [openT_kids (by decide) (by decide), show incI (onN 1).op = 0 by decide, kids_one _ _ _ _ (by decide) (by rw [block_op h]; exact low_block _)]
  omega
theorem pack2_deep {E X : Tr} (hE : 0 ≤ E.deep) (h : X.ok 4) : (pack2 E X).deep = max E.deep X.deep := by
  have hd := block_deep h
  have ho := block_op h
  refine pack_up _ 2 _ (by omega) ?_
  have e1 : lowI E.1.op (wantsOf (onN 2).op ((0 : Nat) : Int)) = 0 := by
    rw [show wantsOf (onN 2).op ((0 : Nat) : Int) = 1 by decide]
    exact low_one _
  rw [openT_kids (by decide) (by decide), show incI (onN 2).op = 0 by decide, kidsMax_cons, Tr.fo, kidsMax_cons, kidsMax_nil, if_neg (by simp [onN]), if_neg (by simp [onN]), e1, ho, low_block]
  simp only [Int.add_zero]
  unfold Tr.deep at hE hd ⊢
  omega
theorem tree_is {X : Tr} (h : X.ok 0) : shapeOf X.flat = -1 ∧ depthOf X.flat = X.deep := ⟨shape_tree.2 ⟨X.1, X.2, rfl, h⟩, depthOf_yes rfl h⟩
/-- What stands in the pack is a tree of one block. -/
theorem one1_inv {l : List Nd} (h : shapeOf (one1 l) = -1) : ∃ X : Tr, X.ok 4 ∧ l = X.flat := by
  obtain ⟨x, k, e, hok⟩ := shape_tree.1 h
  obtain ⟨_, h2, h3, _⟩ := hok
  unfold one1 at e
  simp only [Fo.flat, List.append_nil, List.cons_append, List.nil_append, List.cons.injEq] at e
  obtain ⟨rfl, e⟩ := e
  rw [lev_pk] at h3
  obtain ⟨y, j, rfl⟩ := one_of (f := k) (by have : (1 : Int) = k.len := h2; omega)
  simp only [Fo.flat, List.append_nil, List.cons.injEq] at e
  obtain ⟨rfl, e⟩ := e
  obtain ⟨_, h4, h5, _⟩ := h3
  rw [lev_cd] at h5
  obtain ⟨z, i, rfl⟩ := one_of (f := j) (by have : (1 : Int) = j.len := h4; omega)
  simp only [Fo.flat, List.append_nil, List.cons.injEq] at e
  obtain ⟨rfl, e⟩ := e
  obtain ⟨_, h6, h7, _⟩ := h5
  rw [lev_on1] at h7
  obtain ⟨u, v, rfl⟩ := one_of (f := i) (by have : (1 : Int) = i.len := h6; omega)
  exact ⟨(u, v), h7, e⟩
/-! ### How heavy -/
theorem one1_weight {l : List Nd} (h : shapeOf (one1 l) = -1) : weightOf (one1 l) = l.length := by
  obtain ⟨X, hX, rfl⟩ := one1_inv h
  have hlen : (one1 X.flat).length = X.flat.length + 3 := by simp [one1]
  have hb : behindOf (one1 X.flat) ((2 : Nat) : Int) = (one1 X.flat).length := by
    have hst : StandsAt (one1 X.flat) 2 (.cons (onN 1) X.fo .nil) := ⟨[], by simp [one1, Fo.flat, Tr.flat]⟩
    have h1 := stands_behind hst (by rfl) (show X.fo.wf from OkF.good hX |>.wf)
    rw [h1, hlen]
    have : X.fo.size = X.flat.length := (Fo.size_flat X.fo).symm
    rw [this]
    omega
  have key : ∀ i, wtUpTo (one1 X.flat) (i + 3) = (X.flat.length : Int) := by
    intro i
    induction i with
    | zero =>
      have g0 : (one1 X.flat).getD 0 zeroNd = pkN := rfl
      have g1 : (one1 X.flat).getD 1 zeroNd = cdN := rfl
      have g2 : (one1 X.flat).getD 2 zeroNd = onN 1 := rfl
      rw [Nat.zero_add, wtUpTo, g2, if_pos (by rfl), hb, hlen, wtUpTo, g1, if_neg (by decide), wtUpTo, g0, if_neg (by decide), wtUpTo]
      omega
    | succ i ih =>
      rw [show i + 1 + 3 = (i + 3) + 1 by omega, wtUpTo, ih]
      have := (behind_bd (one1 X.flat) ((i + 3 : Nat) : Int)).2
      split <;> omega
  unfold weightOf
  rw [if_neg (by omega), hlen]
  exact key _
theorem flatMap_len (f : Nat → List Nd) (c : Nat) (h : ∀ i, (f i).length = c) : ∀ n, ((List.range n).flatMap f).length = c * n
  | 0 => by simp
  | n + 1 => by rw [List.range_succ, List.flatMap_append, List.length_append, flatMap_len f c h n, Nat.mul_succ]; simp [h]
/-- THE LAW OF TreeDeeper. -/
def allL (ifs rounds elses : Nat) (block : List Nd) : List Nd :=
  (List.range ifs).flatMap (fun _ => [blN 1, ifN 2, trN]) ++ ((List.range rounds).flatMap (fun i : Nat => [blN 1, repN (i : Int)]) ++ ((if 0 < elses then [blN 1] else []) ++ ((List.range elses).flatMap (fun _ => [ifN 3, faN, blN 0]) ++ block)))
theorem allL_tree (ifs rounds elses : Nat) (X : Tr) : allL ifs rounds elses X.flat = (ifsF ifs (repsF ((List.range rounds).map fun i : Nat => (i : Int)) (wrapElse elses X))).flat := by
  rw [ifsF_flat, repsF_flat, List.flatMap_map]
  unfold allL
  congr 2
  unfold wrapElse
  cases elses with
  | zero => simp
  | succ n =>
    rw [if_pos (by omega), if_neg (by omega)]
    have := elseC_flat X (n + 1)
    show [blN 1] ++ _ = blN 1 :: ((elseC (n + 1) X).fo.flat ++ [])
    rw [List.append_nil]
    show [blN 1] ++ _ = blN 1 :: (elseC (n + 1) X).flat
    rw [this]
    rfl
theorem deeper_law {block : List Nd} {ifs rounds elses : Nat} (hr : rounds ≤ 80) (h : shapeOf (one1 block) = -1) :
    shapeOf (one1 (allL ifs rounds elses block)) = -1 ∧ depthOf (one1 (allL ifs rounds elses block)) = depthOf (one1 block) + ifs + rounds + elses ∧
    weightOf (one1 (allL ifs rounds elses block)) = weightOf (one1 block) + 3 * ifs + 2 * rounds + 3 * elses + (if 0 < elses then 1 else 0) := by
  have hw := one1_weight h
  obtain ⟨X, hX, rfl⟩ := one1_inv h
  have hl : ∀ i ∈ (List.range rounds).map (fun i : Nat => (i : Int)), 0 ≤ i ∧ i ≤ 9223372036854775807 := by
    intro i hi
    obtain ⟨j, hj, rfl⟩ := List.mem_map.1 hi
    rw [List.mem_range] at hj
    omega
  have o1 := wrapElse_ok hX elses
  have o2 := repsF_ok o1 _ hl
  have o3 := ifsF_ok o2 ifs
  have t1 := tree_is (pack1_ok hX)
  have t2 := tree_is (pack1_ok o3)
  rw [pack1_flat] at t1 t2
  rw [← allL_tree] at t2
  have hw2 := one1_weight t2.1
  refine ⟨t2.1, ?_, ?_⟩
  · rw [t2.2, t1.2, pack1_deep o3, pack1_deep hX, ifsF_deep o2, repsF_deep o1 _ hl, wrapElse_deep hX]
    simp only [List.length_map, List.length_range]
    omega
  · rw [hw2, hw]
    have e1 := flatMap_len (fun _ => [blN 1, ifN 2, trN]) 3 (fun _ => rfl)
    have e2 := flatMap_len (fun i : Nat => [blN 1, repN (i : Int)]) 2 (fun _ => rfl)
    have e3 := flatMap_len (fun _ => [ifN 3, faN, blN 0]) 3 (fun _ => rfl)
    unfold allL
    simp only [List.length_append, e1, e2, e3]
    split
    · simp only [List.length_cons, List.length_nil]; omega
    · simp only [List.length_nil]; omega
/-! ### Rows of marks -/
def leftT (op : Int) : Nat → Tr
  | 0 => (numN 0, .nil)
  | m + 1 => (opN op, .cons (leftT op m).1 (leftT op m).2 (.cons (numN ((m + 1 : Nat) : Int)) .nil .nil))
def rightT (op : Int) : Nat → Nat → Tr
  | 0, s => (numN (s : Int), .nil)
  | m + 1, s => (opN op, .cons (numN (s : Int)) .nil (rightT op m (s + 1)).fo)
def leftL (op : Int) (m : Nat) : List Nd := (List.range m).map (fun _ => opN op) ++ (List.range (m + 1)).map (fun i : Nat => numN (i : Int))
def rightL (op : Int) (m : Nat) : List Nd := (List.range m).flatMap (fun i : Nat => [opN op, numN (i : Int)]) ++ [numN (m : Int)]
theorem leftT_flat (op : Int) : ∀ m, (leftT op m).flat = leftL op m
  | 0 => rfl
  | m + 1 => by
    have e : (leftT op (m + 1)).flat = opN op :: ((leftT op m).flat ++ [numN ((m + 1 : Nat) : Int)]) := by simp [leftT, Tr.flat, Tr.fo, Fo.flat]
    have e1 : (List.range (m + 1)).map (fun _ => opN op) = opN op :: (List.range m).map (fun _ => opN op) := by
      rw [List.range_succ_eq_map, List.map_cons, List.map_map]
      rfl
    rw [e, leftT_flat op m, leftL, leftL, e1, List.range_succ (n := m + 1), List.map_append]
    simp only [List.cons_append, List.append_assoc, List.map_cons, List.map_nil]
theorem rightT_flat (op : Int) : ∀ m s, (rightT op m s).flat = (List.range m).flatMap (fun i : Nat => [opN op, numN ((s + i : Nat) : Int)]) ++ [numN ((s + m : Nat) : Int)]
  | 0, s => rfl
  | m + 1, s => by
    have e : (rightT op (m + 1) s).flat = [opN op, numN (s : Int)] ++ (rightT op m (s + 1)).flat := by simp [rightT, Tr.flat, Tr.fo, Fo.flat]
    have e1 : (fun i : Nat => [opN op, numN ((s + Nat.succ i : Nat) : Int)]) = fun i : Nat => [opN op, numN ((s + 1 + i : Nat) : Int)] := by
      funext i
      rw [show s + Nat.succ i = s + 1 + i by omega]
    rw [e, rightT_flat op m (s + 1), List.range_succ_eq_map, List.flatMap_cons, List.flatMap_map, e1, Nat.add_zero, List.append_assoc, show s + 1 + m = s + (m + 1) by omega]
    rfl
def rowOp (op : Int) : Prop := op = 36 ∨ op = 37 ∨ op = 44 ∨ op = 45 ∨ op = 46 ∨ op = 47 ∨ op = 48
theorem node_op {op : Int} (h : rowOp op) : nodeOk (opN op) 3 = true ∧ levOf (opN op) = ⟨[3, 3], 0, 2⟩ ∧ rowB op = true ∧ op ≠ 49 ∧ incI op = 0 ∧ lowI op (wantsOf op 1) = 1 ∧ rankOf op ≠ 8 := by
  rcases h with rfl | rfl | rfl | rfl | rfl | rfl | rfl <;> exact ⟨by decide +kernel, by rfl, by decide, by decide, by decide, by decide, by decide⟩
theorem leftT_ok {op : Int} (h : rowOp op) : ∀ m, m ≤ 1000 → (leftT op m).ok 3
  | 0, _ => ⟨node_num (by omega) (by omega), rfl, trivial, trivial⟩
  | m + 1, hm => by
    refine ⟨(node_op h).1, rfl, ?_, trivial⟩
    rw [show levOf ((leftT op (m + 1)).1) = ⟨[3, 3], 0, 2⟩ from (node_op h).2.1]
    exact okF_cons rfl (leftT_ok h m (by omega)) ⟨node_num (by omega) (by omega), rfl, trivial, trivial⟩
theorem rightT_ok {op : Int} (h : rowOp op) : ∀ m s, m + s ≤ 1000 → (rightT op m s).ok 3
  | 0, s, hm => ⟨node_num (by omega) (by omega), rfl, trivial, trivial⟩
  | m + 1, s, hm => by
    refine ⟨(node_op h).1, rfl, ?_, trivial⟩
    rw [show levOf ((rightT op (m + 1) s).1) = ⟨[3, 3], 0, 2⟩ from (node_op h).2.1]
    exact ⟨node_num (by omega) (by omega), rfl, trivial, okF_cons rfl (rightT_ok h m (s + 1) (by omega)) trivial⟩
theorem low_num (i w : Int) (hw : w ≤ 8) : lowI (numN i).op w = 0 := by
  unfold lowI
  rw [if_neg]
  have : rankOf (numN i).op = 8 := (show rankOf 30 = 8 by decide)
  rw [this]
  simp
  omega
theorem wants8 (op k : Int) : wantsOf op k ≤ 8 := (wants_bd op k).2
theorem rank_num (i : Int) : rankOf (numN i).op = 8 := (show rankOf 30 = 8 by decide)
theorem leftT_row {op : Int} (h : rowOp op) : ∀ (m : Nat) (d : Int), rowF op (leftT op (m + 1)).2 d = (d + m, (m : Int) + 1) := by
  intro m
  induction m with
  | zero =>
    intro d
    have e : (leftT op 1).2 = .cons (numN 0) .nil (.cons (numN ((0 + 1 : Nat) : Int)) .nil .nil) := rfl
    rw [e, rowF_two, if_neg (by rw [rank_num]; exact fun hh => (node_op h).2.2.2.2.2.2 hh.symm), low_num _ _ (wants8 _ _), low_num _ _ (wants8 _ _)]
    simp only [open_num]
    refine Prod.ext ?_ ?_ <;> simp only <;> omega
  | succ m ih =>
    intro d
    have e : (leftT op (m + 2)).2 = .cons (opN op) (leftT op (m + 1)).2 (.cons (numN ((m + 2 : Nat) : Int)) .nil .nil) := rfl
    have e2 : rankOf (opN op).op = rankOf op := rfl
    have e3 : rowF (opN op).op (leftT op (m + 1)).2 d = (d + m, (m : Int) + 1) := ih d
    rw [show m + 1 + 1 = m + 2 by omega, e, rowF_two, if_pos e2, e3, low_num _ _ (wants8 _ _)]
    simp only [open_num]
    refine Prod.ext ?_ ?_ <;> simp only <;> omega
theorem leftT_deep {op : Int} (h : rowOp op) (m : Nat) : (leftT op (m + 1)).deep = m := by
  obtain ⟨_, _, hb, h49, hi, _, _⟩ := node_op h
  show openT (opN op) (leftT op (m + 1)).2 0 = m
  rw [openT_row (x := opN op) h49 hb]
  show (rowF op _ (0 + incI op)).1 = _
  rw [hi, leftT_row h]
  simp
theorem rightT_deep {op : Int} (h : rowOp op) : ∀ (m s : Nat), (rightT op (m + 1) s).deep = m := by
  obtain ⟨_, _, hb, h49, hi, hl, h8⟩ := node_op h
  intro m
  induction m with
  | zero =>
    intro s
    show openT (opN op) (.cons (numN (s : Int)) .nil (.cons (numN ((s + 1 : Nat) : Int)) .nil .nil)) 0 = _
    rw [openT_row (x := opN op) h49 hb]
    show (rowF op _ (0 + incI op)).1 = _
    rw [hi, rowF_two, if_neg (by rw [rank_num]; exact fun hh => h8 hh.symm), low_num _ _ (wants8 _ _), low_num _ _ (wants8 _ _)]
    simp only [open_num]
    simp
  | succ m ih =>
    intro s
    have ih := ih (s + 1)
    show openT (opN op) (.cons (numN (s : Int)) .nil (.cons (opN op) (rightT op (m + 1) (s + 1)).2 .nil)) 0 = _
    have ih2 : openT (opN op) (rightT op (m + 1) (s + 1)).2 0 = m := ih
    rw [openT_row (x := opN op) h49 hb]
    show (rowF op _ (0 + incI op)).1 = _
    rw [hi, rowF_two, if_neg (by rw [rank_num]; exact fun hh => h8 hh.symm), low_num _ _ (wants8 _ _)]
    simp only [open_num]
    have e : lowI (opN op).op (wantsOf op 1) = 1 := hl
    rw [e, open_plus, ih2]
    simp only [Int.add_zero]
    omega
/-- THE LAW OF TreeRows. -/
theorem rows_law {op : Int} {m : Nat} (h : rowOp op) (h1 : 1 ≤ m) (h2 : m ≤ 200) :
    depthOf (one2 (leftL op m) [blN 0]) = max 1 ((m : Int) - 1) ∧ depthOf (one2 (rightL op m) [blN 0]) = max 1 ((m : Int) - 1) := by
  obtain ⟨m, rfl⟩ : ∃ q, m = q + 1 := ⟨m - 1, by omega⟩
  have hX : Tr.ok 4 ((blN 0, .nil) : Tr) := ⟨node_bl0, rfl, trivial, trivial⟩
  have eX : Tr.flat ((blN 0, .nil) : Tr) = [blN 0] := rfl
  have dX : Tr.deep ((blN 0, .nil) : Tr) = 1 := open_bl0 0
  have eR : (rightT op (m + 1) 0).flat = rightL op (m + 1) := by
    rw [rightT_flat, rightL]
    simp only [Nat.zero_add]
  have t1 := (tree_is (pack2_ok (leftT_ok h (m + 1) (by omega)) hX)).2
  have t2 := (tree_is (pack2_ok (rightT_ok h (m + 1) 0 (by omega)) hX)).2
  rw [pack2_flat, eX, leftT_flat, pack2_deep (by rw [leftT_deep h]; omega) hX, leftT_deep h, dX] at t1
  rw [pack2_flat, eX, eR, pack2_deep (by rw [rightT_deep h]; omega) hX, rightT_deep h, dX] at t2
  rw [t1, t2]
  constructor <;> omega
end Go.Proofs.Ytamienmbpdbnnaa.T

/- The reference's stack of frames as it lies in memory; its conditions on a node. -/
import Derived.Test.YtamienmbpdbnnaaTRefA
import Derived.Test.YtamienmbpdbnnaaTForest
namespace Go.Proofs.Ytamienmbpdbnnaa.T
open Go Go.RowKit
set_option linter.unusedVariables false
set_option linter.unusedSimpArgs false
def ownsAll (r : KRow) (k : Int) : List Int := if r.more then [] else if r.least = 1 ∧ r.own.length = 2 ∧ k = 1 then r.own.tail else r.own
set_option maxHeartbeats 4000000 in
theorem table_asks : ∀ p ∈ table, (∀ k, askO p.1 k = ownsAll p.2 k) ∧ askR p.1 = p.2.rest ∧ (∀ k, askM p.1 k = mayB p.2 k) ∧ tkOf p.1 = p.2.tk ∧ ∀ n : Int, n ≤ 9223372036854775807 → numOk p.1 n = (decide (0 ≤ n) && decide (n ≤ p.2.most)) := by
  intro p hp
  simp only [table, List.mem_cons, List.mem_nil_iff, or_false] at hp
  rcases hp with rfl | rfl | rfl | rfl | rfl | rfl | rfl | rfl | rfl | rfl | rfl | rfl | rfl | rfl | rfl | rfl | rfl | rfl | rfl | rfl | rfl | rfl | rfl | rfl | rfl | rfl | rfl | rfl | rfl | rfl | rfl | rfl | rfl | rfl | rfl | rfl | rfl | rfl | rfl | rfl
  all_goals
    refine ⟨fun k => ?_, by decide, fun k => ?_, by decide, fun n hn => ?_⟩
    · simp [askO, ownsAll]
    · rw [Bool.eq_iff_iff]
      simp [askM, mayB]
      try omega
    · rw [Bool.eq_iff_iff]
      simp [numOk]
      try omega
theorem takes_none {op : Int} (h : rowOf op = none) (w : Int) : takesB w op = false := by
  have key : ∀ q : Int, takesB w q = true → q = 1 ∨ q = 2 ∨ (3 ≤ q ∧ q ≤ 7) ∨ (10 ≤ q ∧ q ≤ 19) ∨ (30 ≤ q ∧ q ≤ 52) := by
    intro q hq
    unfold takesB at hq
    repeat' split at hq
    all_goals simp at hq
    all_goals omega
  cases ht : takesB w op with
  | false => rfl
  | true =>
    have := key op ht
    have hc : op = 1 ∨ op = 2 ∨ op = 3 ∨ op = 4 ∨ op = 5 ∨ op = 6 ∨ op = 7 ∨ op = 10 ∨ op = 11 ∨ op = 12 ∨ op = 13 ∨ op = 14 ∨ op = 15 ∨ op = 16 ∨ op = 17 ∨ op = 18 ∨ op = 19 ∨ op = 30 ∨ op = 31 ∨ op = 32 ∨ op = 33 ∨ op = 34 ∨ op = 35 ∨ op = 36 ∨ op = 37 ∨ op = 38 ∨ op = 39 ∨ op = 40 ∨ op = 41 ∨ op = 42 ∨ op = 43 ∨ op = 44 ∨ op = 45 ∨ op = 46 ∨ op = 47 ∨ op = 48 ∨ op = 49 ∨ op = 50 ∨ op = 51 ∨ op = 52 := by omega
    rcases hc with rfl | rfl | rfl | rfl | rfl | rfl | rfl | rfl | rfl | rfl | rfl | rfl | rfl | rfl | rfl | rfl | rfl | rfl | rfl | rfl | rfl | rfl | rfl | rfl | rfl | rfl | rfl | rfl | rfl | rfl | rfl | rfl | rfl | rfl | rfl | rfl | rfl | rfl | rfl | rfl <;> exact absurd h (by decide +kernel)
def refOk (x : Nd) (w : Int) : Bool := takesB w x.op && x.kind == 0 && x.m == 0 && decide (0 ≤ x.at_) && textOk (tkOf x.op) x.text.data.toList && numOk x.op x.n && askM x.op x.kids
theorem nodeOk_ref {x : Nd} (hn : x.n ≤ 9223372036854775807) (w : Int) : nodeOk x w = refOk x w := by
  unfold nodeOk refOk
  cases hr : rowOf x.op with
  | none => simp only [takes_none hr]; rfl
  | some r =>
    obtain ⟨_, _, h3, h4, h5⟩ := table_asks _ (row_mem hr)
    simp only [h3, h4, h5 _ hn]
    rw [Bool.eq_iff_iff]
    simp only [Bool.and_eq_true]
    constructor
    · rintro ⟨⟨⟨⟨⟨⟨⟨a, b⟩, c⟩, d⟩, e⟩, f⟩, g⟩, h⟩; exact ⟨⟨⟨⟨⟨⟨b, c⟩, d⟩, e⟩, h⟩, f, g⟩, a⟩
    · rintro ⟨⟨⟨⟨⟨⟨b, c⟩, d⟩, e⟩, h⟩, f, g⟩, a⟩; exact ⟨⟨⟨⟨⟨⟨⟨a, b⟩, c⟩, d⟩, e⟩, f⟩, g⟩, h⟩
/-! ### What is wanted next -/
def wantAt (f : Lev) (j : Nat) : Int := match f.own.drop j with | [] => f.rest | u :: _ => u
def WantOk (f : Lev) (O : List Int) (oth : Int) (nx : Nat) : Prop := ∀ j : Nat, (j : Int) < f.left → wantAt f j = refWant O oth (nx + j)
theorem WantOk.head {f : Lev} {O : List Int} {oth : Int} {nx : Nat} (h : WantOk f O oth nx) (h0 : 0 < f.left) : f.want = refWant O oth nx := h 0 h0
theorem WantOk.step {f : Lev} {O : List Int} {oth : Int} {nx : Nat} (h : WantOk f O oth nx) : WantOk f.step O oth (nx + 1) := by
  intro j hj
  have h1 := h (j + 1) (by have : f.step.left = f.left - 1 := rfl; omega)
  have e : wantAt f.step j = wantAt f (j + 1) := by
    unfold wantAt Lev.step
    rw [← List.drop_one, List.drop_drop, Nat.add_comm 1 j]
  rw [e, h1, show nx + (j + 1) = nx + 1 + j by omega]
theorem WantOk.of_row {x : Nd} {w : Int} (h : nodeOk x w = true) : WantOk (levOf x) (askO x.op x.kids) (askR x.op) 0 := by
  intro j hj
  unfold nodeOk at h
  unfold levOf at hj ⊢
  cases hr : rowOf x.op with
  | none => rw [hr] at h; cases h
  | some r =>
    rw [hr] at h hj
    simp only at h hj ⊢
    obtain ⟨h1, h2, _, _, _⟩ := table_asks _ (row_mem hr)
    simp only [Bool.and_eq_true] at h
    have hm := h.1.1.1.1.1.1.1
    unfold mayB at hm
    rw [h1, h2, Nat.zero_add]
    unfold wantAt ownsOf ownsAll refWant
    simp only
    by_cases hmo : r.more = true
    · simp only [hmo, if_true, List.drop_nil, List.length_nil, Nat.not_lt_zero, if_false]
    · rw [if_neg hmo, if_neg hmo]
      rw [if_neg (by omega), if_neg hmo] at hm
      simp at hm
      by_cases hs : r.least = 1 ∧ r.own.length = 2 ∧ x.kids = 1
      · rw [if_pos hs, if_pos hs]
        have hl : r.own.tail.length = 1 := by rw [List.length_tail]; omega
        obtain rfl : j = 0 := by omega
        match ho : r.own.tail, hl with
        | [u], _ => rfl
      · rw [if_neg hs, if_neg hs]
        have hjl : j < r.own.length := by omega
        rw [if_pos hjl]
        have hjt : j < (r.own.take x.kids.toNat).length := by rw [List.length_take]; omega
        rw [List.drop_eq_getElem_cons hjt]
        simp [List.getD_eq_getElem?_getD, List.getElem?_eq_getElem hjl]
theorem ask_range (op k : Int) : (askO op k).length ≤ 3 ∧ (∀ u ∈ askO op k, 0 ≤ u ∧ u ≤ 7) ∧ 0 ≤ askR op ∧ askR op ≤ 7 := by
  refine ⟨?_, ?_, ?_⟩
  · unfold askO; repeat' split
    all_goals decide
  · unfold askO
    intro u hu
    repeat' split at hu
    all_goals simp at hu
    all_goals omega
  · unfold askR; repeat' split
    all_goals omega
theorem refWant_range {O : List Int} {oth : Int} (h : ∀ u ∈ O, 0 ≤ u ∧ u ≤ 7) (h2 : 0 ≤ oth ∧ oth ≤ 7) (i : Nat) : 0 ≤ refWant O oth i ∧ refWant O oth i ≤ 7 := by
  unfold refWant
  split
  · rename_i hi
    rw [List.getD_eq_getElem?_getD, List.getElem?_eq_getElem hi]
    exact h _ (List.getElem_mem hi)
  · exact h2
/-! ### The stack -/
structure Fr where
  A : Option Addr
  C : Nat
  O : List Int
  oth : Int
  nx : Nat
def Fr.cells (r : Fr) (left : Int) : List Value := [.slice r.A r.O.length r.C, .int .i64 r.oth, .int .i64 left, .int .i64 r.nx]
structure Fr.Ok (r : Fr) (w : World) (k : Nat) (f : Lev) : Prop where
  row : IntRow w r.A r.O
  len : r.O.length ≤ 3
  rng : ∀ u ∈ r.O, 0 ≤ u ∧ u ≤ 7
  oth : 0 ≤ r.oth ∧ r.oth ≤ 7
  nx : r.nx ≤ k
  want : WantOk f r.O r.oth r.nx
  left : 0 ≤ f.left ∧ f.left ≤ 9223372036854775807
def Rvs (w : World) (k : Nat) : List Lev → List Value → Prop
  | [], xs => xs = []
  | f :: s, xs => ∃ ys r, xs = ys ++ Fr.cells r f.left ∧ r.Ok w k f ∧ Rvs w k s ys
theorem Rvs.len {w : World} {k : Nat} : ∀ {s : List Lev} {xs : List Value}, Rvs w k s xs → xs.length = s.length * 4
  | [], xs, h => by rw [show xs = [] from h]; rfl
  | f :: s, xs, ⟨ys, r, e, _, h⟩ => by
    have := Rvs.len h
    rw [e, List.length_append, this]
    simp [Fr.cells]
    omega
theorem Fr.Ok.keep {r : Fr} {w w' : World} {k k' : Nat} {f : Lev} (h : r.Ok w k f) (hk : k ≤ k') (hr : IntRow w' r.A r.O) : r.Ok w' k' f := ⟨hr, h.len, h.rng, h.oth, Nat.le_trans h.nx hk, h.want, h.left⟩
theorem Rvs.below {w w' : World} {k k' : Nat} (hk : k ≤ k') (hb : Below w.heap.size w w') : ∀ {s : List Lev} {xs : List Value}, Rvs w k s xs → Rvs w' k' s xs
  | [], _, h => h
  | f :: s, xs, ⟨ys, r, e, ho, h⟩ => ⟨ys, r, e, ho.keep hk (ho.row.below hb), Rvs.below hk hb h⟩
theorem Rvs.only {w w' : World} {E : TypeId} {B k k' : Nat} (hk : k ≤ k') (hb : G.Only E B w w') (hE : 3 ≠ E) : ∀ {s : List Lev} {xs : List Value}, Rvs w k s xs → Rvs w' k' s xs
  | [], _, h => h
  | f :: s, xs, ⟨ys, r, e, ho, h⟩ => ⟨ys, r, e, ho.keep hk (ho.row.only hb hE), Rvs.only hk hb hE h⟩
end Go.Proofs.Ytamienmbpdbnnaa.T

/- A state in a variable, what a store into its lists leaves. -/
import Derived.Test.YtofgmijmhpmabaaGreatDoorDList
import Derived.Test.YtofgmijmhpmabaaGreatDoorDMem
namespace Go.Proofs.YtofgmijmhpmabaaGreatDoor.D
open Go Go.RowKit
set_option linter.unusedVariables false
set_option linter.unusedSimpArgs false
theorem own_far {w w' : World} {b e sz n b2 e2 sz2 n2 : Nat} {v v2 : Value} {xs xs2 : List Value} (h : w.ownsRow b e sz v n xs) (h2 : w.ownsRow b2 e2 sz2 v2 n2 xs2) (hg : w.grownBy w' v2.ownBlock) (he : e ≠ e2) : w'.ownsRow b e sz v n xs := by
  refine h.kept hg ?_
  cases hv : v.ownBlock with
  | none => exact .inl rfl
  | some g =>
    refine .inr fun hh => ?_
    obtain ⟨c1, h1⟩ := G.ownsRow.block_e h hv
    obtain ⟨c2, h3⟩ := G.ownsRow.block_e h2 hh.symm
    rw [h1] at h3
    simp only [Option.some.injEq, Obj.cells.injEq] at h3
    exact he h3.2.1
theorem flat_set {α : Type} (f : α → List Value) (sz : Nat) (hf : ∀ x, (f x).length = sz) (d : α) {j : Nat} {u : Value} (hj : j < sz) : ∀ (l : List α) (i : Nat) (y : α), i < l.length → f y = (f (l.getD i d)).set j u → (l.flatMap f).set (i * sz + j) u = (l.set i y).flatMap f
  | [], i, _, h, _ => by simp at h
  | a :: l, 0, y, _, h => by
    have e : (a :: l).getD 0 d = a := rfl
    rw [e] at h
    rw [List.set_cons_zero, List.flatMap_cons, List.flatMap_cons, h, Nat.zero_mul, Nat.zero_add, List.set_append_left _ _ (by rw [hf]; exact hj)]
  | a :: l, i + 1, y, hi, h => by
    have e : (a :: l).getD (i + 1) d = l.getD i d := rfl
    rw [e] at h
    have ih := flat_set f sz hf d hj l i y (by simp at hi; omega) h
    rw [List.set_cons_succ, List.flatMap_cons, List.flatMap_cons, ← ih, List.set_append_right _ _ (by rw [hf, Nat.succ_mul]; omega), hf]
    congr 2
    rw [Nat.succ_mul]
    omega
/-- What holds of a state's lists but one row. -/
structure OwnBut (w : World) (base : Nat) (x : SV) (s : St) (zi : Nat) : Prop where
  p : w.ownsRow base 103 3 (.slice x.pa s.players.length x.pc) s.players.length (flatP s.players)
  c : w.ownsRow base 101 6 (.slice x.ca s.cards.length x.cc) s.cards.length (flatC s.cards)
  z : w.ownsRow base 28 1 (.slice x.za s.zones.length x.zc) s.zones.length x.rows
  rows : ∀ i, i < s.zones.length → i ≠ zi → w.ownsRow base 3 1 (x.rows.getD i undef) (s.zones.getD i []).length (i64s (s.zones.getD i []))
  apart : ∀ i j, i < s.zones.length → j < s.zones.length → i ≠ j → (x.rows.getD i undef).ownBlock = none ∨ (x.rows.getD i undef).ownBlock ≠ (x.rows.getD j undef).ownBlock
section
variable {w w' : World} {base : Nat} {x : SV} {s : St}
theorem OwnSt.but (h : OwnSt w base x s) (z : Nat) : OwnBut w base x s z := ⟨h.p, h.c, h.z, fun i hi _ => h.rows i hi, h.apart⟩
/-- The row that is left out is written to. -/
theorem OwnBut.wrote {z : Nat} (h : OwnBut w base x s z) (hz : z < s.zones.length) {b2 n2 : Nat} {xs2 : List Value} (hr : w.ownsRow b2 3 1 (x.rows.getD z undef) n2 xs2) (hg : w.grownBy w' (x.rows.getD z undef).ownBlock) : OwnBut w' base x s z :=
  ⟨own_far h.p hr hg (by decide), own_far h.c hr hg (by decide), own_far h.z hr hg (by decide), fun i hi hn => (h.rows i hi hn).kept hg (h.apart i z hi hz hn), h.apart⟩
theorem OwnBut.below {z : Nat} (h : OwnBut w base x s z) (hb : Below w.heap.size w w') : OwnBut w' base x s z :=
  ⟨G.own_below h.p hb, G.own_below h.c hb, G.own_below h.z hb, fun i hi hn => G.own_below (h.rows i hi hn) hb, h.apart⟩
theorem rows_len (h : OwnSt w base x s) : x.rows.length = s.zones.length := by have := h.z.1; omega
/-- A row is laid into the list of rows. -/
theorem OwnBut.zset {z g : Nat} {v : Value} {l : List Int} (h : OwnBut w base x s z) (hz : z < s.zones.length) (hza : x.za = some ⟨g, 0, none⟩) (hv : w.ownsRow base 3 1 v l.length (i64s l))
    (ha : ∀ i, i < s.zones.length → i ≠ z → (x.rows.getD i undef).ownBlock = none ∨ (x.rows.getD i undef).ownBlock ≠ v.ownBlock) :
    OwnSt (w.setCell ⟨g, z, none⟩ v) base { x with rows := x.rows.set z v } { s with zones := s.zones.set z l } := by
  have hzz := h.z
  rw [hza] at hzz
  have hst := hzz.stored z v
  have hrl : x.rows.length = s.zones.length := by have := h.z.1; omega
  have hg : w.grownBy (w.setCell ⟨g, z, none⟩ v) (Value.slice (some ⟨g, 0, none⟩) s.zones.length x.zc).ownBlock := hst.2
  refine ⟨own_far h.p hzz hg (by decide), own_far h.c hzz hg (by decide), ?_, fun i hi => ?_, fun i j hi hj hn => ?_⟩
  · simp only [List.length_set, hza]
    exact hst.1
  · simp only [List.length_set] at hi ⊢
    by_cases hiz : z = i
    · subst hiz
      rw [getD_set_eq (by omega), getD_set_eq hi]
      exact own_far hv hzz hg (by decide)
    · rw [getD_set_ne hiz, getD_set_ne hiz]
      exact own_far (h.rows i hi (fun e => hiz e.symm)) hzz hg (by decide)
  · simp only [List.length_set] at hi hj ⊢
    by_cases hiz : z = i
    · subst hiz
      rw [getD_set_eq (by omega), getD_set_ne hn]
      rcases ha j hj (fun e => hn e.symm) with h1 | h1
      · rw [h1]
        cases v.ownBlock with
        | none => exact .inl rfl
        | some q => exact .inr (by simp)
      · exact .inr fun e => h1 e.symm
    · by_cases hjz : z = j
      · subst hjz
        rw [getD_set_ne hiz, getD_set_eq (by omega)]
        exact ha i hi (fun e => hiz e.symm)
      · rw [getD_set_ne hiz, getD_set_ne hjz]
        exact h.apart i j hi hj hn
/-- Blocks of other types than the lists' have changed. -/
theorem OwnSt.only {E : TypeId} {B : Nat} (h : OwnSt w base x s) (k : G.Only E B w w') (h1 : 103 ≠ E) (h2 : 101 ≠ E) (h3 : 28 ≠ E) (h4 : 3 ≠ E) : OwnSt w' base x s :=
  ⟨k.own h.p h1, k.own h.c h2, k.own h.z h3, fun i hi => k.own (h.rows i hi) h4, h.apart⟩
/-- A field of a player is written. -/
theorem OwnSt.pset {g i j : Nat} {u : Value} {y : Pl} (h : OwnSt w base x s) (hpa : x.pa = some ⟨g, 0, none⟩) (hi : i < s.players.length) (hj : j < 3) (hy : y.cells = ((s.players.getD i zeroPl).cells).set j u) :
    OwnSt (w.setCell ⟨g, i * 3 + j, none⟩ u) base x { s with players := s.players.set i y } := by
  have hpp := h.p
  rw [hpa] at hpp
  have hst := hpp.stored (i * 3 + j) u
  have hg : w.grownBy (w.setCell ⟨g, i * 3 + j, none⟩ u) (Value.slice (some ⟨g, 0, none⟩) s.players.length x.pc).ownBlock := hst.2
  refine ⟨?_, own_far h.c hpp hg (by decide), own_far h.z hpp hg (by decide), fun k hk => own_far (h.rows k hk) hpp hg (by decide), h.apart⟩
  simp only [List.length_set, hpa]
  have e : flatP (s.players.set i y) = (flatP s.players).set (i * 3 + j) u := (flat_set Pl.cells 3 (fun _ => rfl) zeroPl hj _ _ _ hi hy).symm
  rw [e]
  exact hst.1
/-- A field of a card is written. -/
theorem OwnSt.cset {g i j : Nat} {u : Value} {y : Cd} (h : OwnSt w base x s) (hca : x.ca = some ⟨g, 0, none⟩) (hi : i < s.cards.length) (hj : j < 6) (hy : y.cells = ((s.cards.getD i zeroCd).cells).set j u) :
    OwnSt (w.setCell ⟨g, i * 6 + j, none⟩ u) base x { s with cards := s.cards.set i y } := by
  have hcc := h.c
  rw [hca] at hcc
  have hst := hcc.stored (i * 6 + j) u
  have hg : w.grownBy (w.setCell ⟨g, i * 6 + j, none⟩ u) (Value.slice (some ⟨g, 0, none⟩) s.cards.length x.cc).ownBlock := hst.2
  refine ⟨own_far h.p hcc hg (by decide), ?_, own_far h.z hcc hg (by decide), fun k hk => own_far (h.rows k hk) hcc hg (by decide), h.apart⟩
  simp only [List.length_set, hca]
  have e : flatC (s.cards.set i y) = (flatC s.cards).set (i * 6 + j) u := (flat_set Cd.cells 6 (fun _ => rfl) zeroCd hj _ _ _ hi hy).symm
  rw [e]
  exact hst.1
end
/-- A state in a variable of the call's own. -/
structure StAt (w : World) (g base : Nat) (x : SV) (s : St) : Prop where
  blk : G.Blk w g 27 (x.arr s)
  own : OwnSt w base x s
  ge : base ≤ g
theorem StAt.below {w w' : World} {g base : Nat} {x : SV} {s : St} (h : StAt w g base x s) (hb : Below w.heap.size w w') : StAt w' g base x s := ⟨h.blk.below hb h.blk.lt, h.own.below hb, h.ge⟩
/-- The variable's block outlives what is written elsewhere. -/
theorem blk_far {w w' : World} {g : Nat} {t : TypeId} {cs : Array Value} (h : G.Blk w g t cs) {b2 e2 sz2 n2 : Nat} {v2 : Value} {xs2 : List Value} (h2 : w.ownsRow b2 e2 sz2 v2 n2 xs2) (hg : w.grownBy w' v2.ownBlock) (he : t ≠ e2) : G.Blk w' g t cs := by
  refine h.same (hg.block g h.lt fun hh => ?_)
  obtain ⟨c2, h3⟩ := G.ownsRow.block_e h2 hh.symm
  unfold G.Blk at h
  rw [h] at h3
  simp only [Option.some.injEq, Obj.cells.injEq] at h3
  exact he h3.2.1
def StepPost (s : St) (o : Option St) (g base : Nat) (w : World) (e : Ending) (w' : World) : Prop :=
  ∃ b : Bool, e = .returned (.bool b) ∧ Below base w w' ∧ ((b = true ∧ ∃ t x', o = some t ∧ StAt w' g base x' t) ∨ (b = false ∧ o = none))
theorem stepP_no {s : St} {o : Option St} {g base : Nat} {w w' : World} (h : o = none) (hb : Below base w w') : StepPost s o g base w (.returned (.bool false)) w' := ⟨false, rfl, hb, .inr ⟨rfl, h⟩⟩
theorem stepP_yes {s t : St} {o : Option St} {g base : Nat} {x' : SV} {w w' : World} (h : o = some t) (hs : StAt w' g base x' t) (hb : Below base w w') : StepPost s o g base w (.returned (.bool true)) w' := ⟨true, rfl, hb, .inl ⟨rfl, t, x', h, hs⟩⟩
end Go.Proofs.YtofgmijmhpmabaaGreatDoor.D

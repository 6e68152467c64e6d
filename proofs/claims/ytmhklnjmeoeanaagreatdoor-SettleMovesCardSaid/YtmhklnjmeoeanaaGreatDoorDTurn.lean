/- The contracts of deed.turn, deed.out, the ends of a game. -/
import Derived.Test.YtmhklnjmeoeanaaGreatDoorDMem
import Derived.RangeFuncCalls
import Derived.Test.YtmhklnjmeoeanaaGreatDoorDCheckW
namespace Go.Proofs.YtmhklnjmeoeanaaGreatDoor.D
open Go Go.RowKit
set_option linter.unusedVariables false
set_option linter.unusedSimpArgs false
theorem own_far {w w' : World} {b e sz n b2 e2 sz2 n2 : Nat} {v v2 : Value} {xs xs2 : List Value} (h : w.ownsRow b e sz v n xs) (h2 : w.ownsRow b2 e2 sz2 v2 n2 xs2) (hg : w.grownBy w' v2.ownBlock) (he : e ≠ e2) : w'.ownsRow b e sz v n xs := by
  refine h.kept hg ?_
  cases hv : v.ownBlock with
  | none => exact .inl rfl
  | some g =>
    refine .inr fun hh => ?_
    obtain ⟨c1, h1⟩ := G.ownsRow.block_e h hv
    obtain ⟨c2, h3⟩ := G.ownsRow.block_e h2 hh.symm
    rw [h1] at h3
    simp only [Option.some.injEq, Obj.cells.injEq] at h3
    exact he h3.2.1
theorem flat_set {α : Type} (f : α → List Value) (sz : Nat) (hf : ∀ x, (f x).length = sz) (d : α) {j : Nat} {u : Value} (hj : j < sz) : ∀ (l : List α) (i : Nat) (y : α), i < l.length → f y = (f (l.getD i d)).set j u → (l.flatMap f).set (i * sz + j) u = (l.set i y).flatMap f
  | [], i, _, h, _ => by simp at h
  | a :: l, 0, y, _, h => by
    have e : (a :: l).getD 0 d = a := rfl
    rw [e] at h
    rw [List.set_cons_zero, List.flatMap_cons, List.flatMap_cons, h, Nat.zero_mul, Nat.zero_add, List.set_append_left _ _ (by rw [hf]; exact hj)]
  | a :: l, i + 1, y, hi, h => by
    have e : (a :: l).getD (i + 1) d = l.getD i d := rfl
    rw [e] at h
    have ih := flat_set f sz hf d hj l i y (by simp at hi; omega) h
    rw [List.set_cons_succ, List.flatMap_cons, List.flatMap_cons, ← ih, List.set_append_right _ _ (by rw [hf, Nat.succ_mul]; omega), hf]
    congr 2
    rw [Nat.succ_mul]
    omega
/-- What holds of a state's lists but one row. -/
structure OwnBut (w : World) (base : Nat) (x : SV) (s : St) (zi : Nat) : Prop where
  p : w.ownsRow base 44 3 (.slice x.pa s.players.length x.pc) s.players.length (flatP s.players)
  c : w.ownsRow base 39 6 (.slice x.ca s.cards.length x.cc) s.cards.length (flatC s.cards)
  z : w.ownsRow base 35 1 (.slice x.za s.zones.length x.zc) s.zones.length x.rows
  rows : ∀ i, i < s.zones.length → i ≠ zi → w.ownsRow base 3 1 (x.rows.getD i undef) (s.zones.getD i []).length (i64s (s.zones.getD i []))
  apart : ∀ i j, i < s.zones.length → j < s.zones.length → i ≠ j → (x.rows.getD i undef).ownBlock = none ∨ (x.rows.getD i undef).ownBlock ≠ (x.rows.getD j undef).ownBlock
section
variable {w w' : World} {base : Nat} {x : SV} {s : St}
theorem OwnSt.but (h : OwnSt w base x s) (z : Nat) : OwnBut w base x s z := ⟨h.p, h.c, h.z, fun i hi _ => h.rows i hi, h.apart⟩
/-- The row that is left out is written to. -/
theorem OwnBut.wrote {z : Nat} (h : OwnBut w base x s z) (hz : z < s.zones.length) {b2 n2 : Nat} {xs2 : List Value} (hr : w.ownsRow b2 3 1 (x.rows.getD z undef) n2 xs2) (hg : w.grownBy w' (x.rows.getD z undef).ownBlock) : OwnBut w' base x s z :=
  ⟨own_far h.p hr hg (by decide), own_far h.c hr hg (by decide), own_far h.z hr hg (by decide), fun i hi hn => (h.rows i hi hn).kept hg (h.apart i z hi hz hn), h.apart⟩
theorem OwnBut.below {z : Nat} (h : OwnBut w base x s z) (hb : Below w.heap.size w w') : OwnBut w' base x s z :=
  ⟨G.own_below h.p hb, G.own_below h.c hb, G.own_below h.z hb, fun i hi hn => G.own_below (h.rows i hi hn) hb, h.apart⟩
theorem rows_len (h : OwnSt w base x s) : x.rows.length = s.zones.length := by have := h.z.1; omega
/-- A row is laid into the list of rows. -/
theorem OwnBut.zset {z g : Nat} {v : Value} {l : List Int} (h : OwnBut w base x s z) (hz : z < s.zones.length) (hza : x.za = some ⟨g, 0, none⟩) (hv : w.ownsRow base 3 1 v l.length (i64s l))
    (ha : ∀ i, i < s.zones.length → i ≠ z → (x.rows.getD i undef).ownBlock = none ∨ (x.rows.getD i undef).ownBlock ≠ v.ownBlock) :
    OwnSt (w.setCell ⟨g, z, none⟩ v) base { x with rows := x.rows.set z v } { s with zones := s.zones.set z l } := by
  have hzz := h.z
  rw [hza] at hzz
  have hst := hzz.stored z v
  have hrl : x.rows.length = s.zones.length := by have := h.z.1; omega
  have hg : w.grownBy (w.setCell ⟨g, z, none⟩ v) (Value.slice (some ⟨g, 0, none⟩) s.zones.length x.zc).ownBlock := hst.2
  refine ⟨own_far h.p hzz hg (by decide), own_far h.c hzz hg (by decide), ?_, fun i hi => ?_, fun i j hi hj hn => ?_⟩
  · simp only [List.length_set, hza]
    exact hst.1
  · simp only [List.length_set] at hi ⊢
    by_cases hiz : z = i
    · subst hiz
      rw [getD_set_eq (by omega), getD_set_eq hi]
      exact own_far hv hzz hg (by decide)
    · rw [getD_set_ne hiz, getD_set_ne hiz]
      exact own_far (h.rows i hi (fun e => hiz e.symm)) hzz hg (by decide)
  · simp only [List.length_set] at hi hj ⊢
    by_cases hiz : z = i
    · subst hiz
      rw [getD_set_eq (by omega), getD_set_ne hn]
      rcases ha j hj (fun e => hn e.symm) with h1 | h1
      · rw [h1]
        cases v.ownBlock with
        | none => exact .inl rfl
        | some q => exact .inr (by simp)
      · exact .inr fun e => h1 e.symm
    · by_cases hjz : z = j
      · subst hjz
        rw [getD_set_ne hiz, getD_set_eq (by omega)]
        exact ha i hi (fun e => hiz e.symm)
      · rw [getD_set_ne hiz, getD_set_ne hjz]
        exact h.apart i j hi hj hn
/-- Blocks of other types than the lists' have changed. -/
theorem OwnSt.only {E : TypeId} {B : Nat} (h : OwnSt w base x s) (k : G.Only E B w w') (h1 : 44 ≠ E) (h2 : 39 ≠ E) (h3 : 35 ≠ E) (h4 : 3 ≠ E) : OwnSt w' base x s :=
  ⟨k.own h.p h1, k.own h.c h2, k.own h.z h3, fun i hi => k.own (h.rows i hi) h4, h.apart⟩
/-- A field of a player is written. -/
theorem OwnSt.pset {g i j : Nat} {u : Value} {y : Pl} (h : OwnSt w base x s) (hpa : x.pa = some ⟨g, 0, none⟩) (hi : i < s.players.length) (hj : j < 3) (hy : y.cells = ((s.players.getD i zeroPl).cells).set j u) :
    OwnSt (w.setCell ⟨g, i * 3 + j, none⟩ u) base x { s with players := s.players.set i y } := by
  have hpp := h.p
  rw [hpa] at hpp
  have hst := hpp.stored (i * 3 + j) u
  have hg : w.grownBy (w.setCell ⟨g, i * 3 + j, none⟩ u) (Value.slice (some ⟨g, 0, none⟩) s.players.length x.pc).ownBlock := hst.2
  refine ⟨?_, own_far h.c hpp hg (by decide), own_far h.z hpp hg (by decide), fun k hk => own_far (h.rows k hk) hpp hg (by decide), h.apart⟩
  simp only [List.length_set, hpa]
  have e : flatP (s.players.set i y) = (flatP s.players).set (i * 3 + j) u := (flat_set Pl.cells 3 (fun _ => rfl) zeroPl hj _ _ _ hi hy).symm
  rw [e]
  exact hst.1
/-- A field of a card is written. -/
theorem OwnSt.cset {g i j : Nat} {u : Value} {y : Cd} (h : OwnSt w base x s) (hca : x.ca = some ⟨g, 0, none⟩) (hi : i < s.cards.length) (hj : j < 6) (hy : y.cells = ((s.cards.getD i zeroCd).cells).set j u) :
    OwnSt (w.setCell ⟨g, i * 6 + j, none⟩ u) base x { s with cards := s.cards.set i y } := by
  have hcc := h.c
  rw [hca] at hcc
  have hst := hcc.stored (i * 6 + j) u
  have hg : w.grownBy (w.setCell ⟨g, i * 6 + j, none⟩ u) (Value.slice (some ⟨g, 0, none⟩) s.cards.length x.cc).ownBlock := hst.2
  refine ⟨own_far h.p hcc hg (by decide), ?_, own_far h.z hcc hg (by decide), fun k hk => own_far (h.rows k hk) hcc hg (by decide), h.apart⟩
  simp only [List.length_set, hca]
  have e : flatC (s.cards.set i y) = (flatC s.cards).set (i * 6 + j) u := (flat_set Cd.cells 6 (fun _ => rfl) zeroCd hj _ _ _ hi hy).symm
  rw [e]
  exact hst.1
end
/-- A state in a variable of the call's own. -/
structure StAt (w : World) (g base : Nat) (x : SV) (s : St) : Prop where
  blk : G.Blk w g 27 (x.arr s)
  own : OwnSt w base x s
  ge : base ≤ g
theorem StAt.below {w w' : World} {g base : Nat} {x : SV} {s : St} (h : StAt w g base x s) (hb : Below w.heap.size w w') : StAt w' g base x s := ⟨h.blk.below hb h.blk.lt, h.own.below hb, h.ge⟩
/-- The variable's block outlives what is written elsewhere. -/
theorem blk_far {w w' : World} {g : Nat} {t : TypeId} {cs : Array Value} (h : G.Blk w g t cs) {b2 e2 sz2 n2 : Nat} {v2 : Value} {xs2 : List Value} (h2 : w.ownsRow b2 e2 sz2 v2 n2 xs2) (hg : w.grownBy w' v2.ownBlock) (he : t ≠ e2) : G.Blk w' g t cs := by
  refine h.same (hg.block g h.lt fun hh => ?_)
  obtain ⟨c2, h3⟩ := G.ownsRow.block_e h2 hh.symm
  unfold G.Blk at h
  rw [h] at h3
  simp only [Option.some.injEq, Obj.cells.injEq] at h3
  exact he h3.2.1
/-- The types of the blocks that a state is made of. -/
def stTs : List TypeId := [27, 44, 39, 35, 3]
def StBlk (w : World) (g : Nat) : Prop := ∃ cs t, t ∈ stTs ∧ w.heap[g]? = some (.cells cs t (0, 0))
theorem StBlk.st {w : World} {g : Nat} {cs : Array Value} (h : G.Blk w g 27 cs) : StBlk w g := ⟨cs, _, by decide, h⟩
theorem StBlk.own {w : World} {base e sz n g : Nat} {v : Value} {xs : List Value} (h : w.ownsRow base e sz v n xs) (hv : v.ownBlock = some g) (he : e ∈ stTs) : StBlk w g := by
  obtain ⟨cs, hc⟩ := G.ownsRow.block_e h hv
  exact ⟨cs, _, he, hc⟩
/-- Is it none of a state's blocks? -/
def stFar (o : Obj) : Bool := match o with | .cells _ t _ => !(stTs.contains t) | _ => true
theorem StBlk.near {w : World} {g : Nat} {o : Obj} (h : StBlk w g) (ho : w.heap[g]? = some o) (hf : stFar o = true) : False := by
  obtain ⟨cs, t, ht, hc⟩ := h
  rw [hc] at ho
  obtain rfl := Option.some.inj ho
  have : stTs.contains t = true := by simpa using ht
  simp only [stFar, this] at hf
  cases hf
/-- Only blocks of the call's own have changed, and none but of such types as a state is made of. -/
structure Bk (B : Nat) (w w' : World) : Prop where
  below : Below B w w'
  far : ∀ (k : Nat) (o : Obj), w.heap[k]? = some o → stFar o = true → w'.heap[k]? = some o
theorem Bk.refl (B : Nat) (w : World) : Bk B w w := ⟨Below.refl _ _, fun _ _ h _ => h⟩
theorem Bk.trans {B : Nat} {w w1 w' : World} (h : Bk B w w1) (k : Bk B w1 w') : Bk B w w' := ⟨h.below.trans k.below, fun i o hi ho => k.far i o (h.far i o hi ho) ho⟩
theorem Bk.of {B : Nat} {w w' : World} (h : Below w.heap.size w w') (hB : B ≤ w.heap.size) : Bk B w w' := ⟨h.mono hB, fun k o hk _ => (h.block k (Array.getElem?_eq_some_iff.1 hk).1).trans hk⟩
theorem Bk.keeps {B : Nat} {w w' : World} (h : Bk B w w') : KeepsOthers w w' := ⟨h.below.size, fun k o hk ho => h.far k o hk (by cases o <;> simp_all [Obj.isCells, stFar])⟩
theorem far_put {w : World} {g i : Nat} {u : Value} (hb : StBlk w g) (k : Nat) (o : Obj) (hk : w.heap[k]? = some o) (hf : stFar o = true) : (w.setCell ⟨g, i, none⟩ u).heap[k]? = some o := by
  by_cases e : k = g
  · subst e
    exact (hb.near hk hf).elim
  · exact (Below.heap_setCell w ⟨g, i, none⟩ u k e).trans hk
theorem bk_put {w : World} {g base i : Nat} {u : Value} (h : base ≤ g) (hb : StBlk w g) : Bk base w (w.setCell ⟨g, i, none⟩ u) := ⟨(Below.refl _ _).setCell h u, far_put hb⟩
theorem bk_dn (B : Nat) (w : World) (n : Nat) : Bk B w (w.drewN n) := ⟨⟨rfl, rfl, rfl, Nat.le_refl _, fun _ _ => rfl⟩, fun _ _ h _ => h⟩
theorem far_grown {w w' : World} {row : Option Nat} (hg : w.grownBy w' row) (hrow : ∀ r, row = some r → StBlk w r) (k : Nat) (o : Obj) (hk : w.heap[k]? = some o) (hf : stFar o = true) : w'.heap[k]? = some o :=
  (hg.block k (Array.getElem?_eq_some_iff.1 hk).1 fun e => (hrow k e.symm).near hk hf).trans hk
theorem bk_put2 {w : World} {g base i j : Nat} {u v : Value} {x : SV} {s : St} (h : StAt w g base x s) : Bk base w ((w.setCell ⟨g, i, none⟩ u).setCell ⟨g, j, none⟩ v) :=
  (bk_put h.ge (StBlk.st h.blk)).trans (bk_put h.ge (StBlk.st (h.blk.put _ _)))
def StepPost (s : St) (o : Option St) (g base : Nat) (w : World) (e : Ending) (w' : World) : Prop :=
  ∃ b : Bool, e = .returned (.bool b) ∧ Bk base w w' ∧ ((b = true ∧ ∃ t x', o = some t ∧ StAt w' g base x' t) ∨ (b = false ∧ o = none))
theorem stepP_no {s : St} {o : Option St} {g base : Nat} {w w' : World} (h : o = none) (hb : Bk base w w') : StepPost s o g base w (.returned (.bool false)) w' := ⟨false, rfl, hb, .inr ⟨rfl, h⟩⟩
theorem stepP_yes {s t : St} {o : Option St} {g base : Nat} {x' : SV} {w w' : World} (h : o = some t) (hs : StAt w' g base x' t) (hb : Bk base w w') : StepPost s o g base w (.returned (.bool true)) w' := ⟨true, rfl, hb, .inl ⟨rfl, t, x', h, hs⟩⟩
end Go.Proofs.YtmhklnjmeoeanaaGreatDoor.D
namespace Go.Proofs.YtmhklnjmeoeanaaGreatDoor.D
open Go Go.RowKit
set_option linter.unusedVariables false
set_option linter.unusedSimpArgs false
theorem StAt.cells {w : World} {g base : Nat} {x : SV} {s : St} (h : StAt w g base x s) :
    w.cell? ⟨g, 0, none⟩ = some (.slice x.pa s.players.length x.pc) ∧ w.cell? ⟨g, 1, none⟩ = some (.slice x.ca s.cards.length x.cc) ∧ w.cell? ⟨g, 2, none⟩ = some (.slice x.za s.zones.length x.zc) ∧ w.cell? ⟨g, 3, none⟩ = some (.int .i32 s.turn) ∧
      w.cell? ⟨g, 4, none⟩ = some (.int .i64 s.whose) ∧ w.cell? ⟨g, 5, none⟩ = some (.int .i8 s.fin) ∧ w.cell? ⟨g, 6, none⟩ = some (.int .i64 s.winner) :=
  ⟨h.blk.cell 0, h.blk.cell 1, h.blk.cell 2, h.blk.cell 3, h.blk.cell 4, h.blk.cell 5, h.blk.cell 6⟩
/-- A number of a state is written. -/
theorem StAt.put {w : World} {g base i : Nat} {x : SV} {s t : St} {u : Value} (h : StAt w g base x s) (ht : x.arr t = (x.arr s).setIfInBounds i u) (h1 : t.players = s.players) (h2 : t.cards = s.cards) (h3 : t.zones = s.zones) : StAt (w.setCell ⟨g, i, none⟩ u) g base x t := by
  refine ⟨by rw [ht]; exact h.blk.put i u, ?_, h.ge⟩
  have hO : G.Only 27 0 w (w.setCell ⟨g, i, none⟩ u) := (G.Only.refl _ _ _).set (p := ⟨g, i, none⟩) (Nat.zero_le _) (show w.heap[g]? = some (.cells (x.arr s) 27 (0, 0)) from h.blk) u
  have := h.own.only hO (by decide) (by decide) (by decide) (by decide)
  obtain ⟨a1, a2, a3, a4, a5, a6, a7⟩ := t
  simp only at h1 h2 h3
  subst h1 h2 h3
  exact ⟨this.p, this.c, this.z, this.rows, this.apart⟩
theorem stored_by {w : World} {base e sz n c g : Nat} {a : Option Addr} {xs : List Value} (h : w.ownsRow base e sz (.slice a n c) n xs) (ha : a = some ⟨g, 0, none⟩) (j : Nat) (u : Value) : w.grownBy (w.setCell ⟨g, j, none⟩ u) (Value.slice a n c).ownBlock := by
  subst ha
  exact (h.stored j u).2
theorem bl_put {w : World} {g base i : Nat} {u : Value} (h : base ≤ g) : Below base w (w.setCell ⟨g, i, none⟩ u) := (Below.refl _ _).setCell h u
set_option maxHeartbeats 2000000 in
theorem turn_any (g base : Nat) (x : SV) (s : St) (w : World) (hs : StAt w g base x s) (hz : Sz s) (was now src dst by_ : Int) (hw : -2147483648 ≤ was ∧ was ≤ 2147483647) (hn : -2147483648 ≤ now ∧ now ≤ 2147483647) (hb : by_ = 1 ∨ by_ = -1) :
    Calls Tryz.prog 145 #[.pointer (some ⟨g, 0, none⟩), .int .i32 was, .int .i32 now, .int .i64 src, .int .i64 dst, .int .i64 by_] w (StepPost s (turnS s was now src dst by_) g base w) := by
  have HS := Lib.hid hs
  have hp := hz.p
  obtain ⟨c0, c1, c2, c3, c4, c5, c6⟩ := hs.cells
  have f3 := hs.blk.frozen 3
  have f4 := hs.blk.frozen 4
  have hlt := hs.blk.lt
  obtain ⟨w1, w2⟩ := hw
  obtain ⟨n1, n2⟩ := hn
  have HT := Lib.hid (show turnS s was now src dst by_ = if s.turn = was ∧ s.whose = src ∧ Within dst s.players.length ∧ now = was + by_ then some { s with turn := now, whose := dst } else none from rfl)
  obtain ⟨n, hnn⟩ : ∃ n, n = s.players.length := ⟨_, rfl⟩
  rw [← hnn] at hp c0
  have HNN := Lib.hid hnn
  have hby0 : -1 ≤ by_ ∧ by_ ≤ 1 := by omega
  obtain ⟨b1, b2⟩ := hby0
  clear hs hz hnn hb
  by_cases h1 : s.turn = was
  · rw [h1] at c3
    by_cases h2 : s.whose = src
    · rw [h2] at c4
      by_cases h3 : 0 ≤ dst
      · by_cases h4 : dst < n
        · by_cases h5 : now = was + by_
          · have HO := Lib.hid (show turnS s was now src dst by_ = some { s with turn := now, whose := dst } by
              rw [HT.out, if_pos ⟨h1, h2, ⟨h3, by rw [← HNN.out]; exact h4⟩, h5⟩])
            have h5b : (now != was + by_) = false := by rw [h5]; simp
            have HR := Lib.hid (((HS.out.put (i := 3) (t := { s with turn := now }) (u := .int .i32 now) rfl rfl rfl rfl).put (i := 4) (t := { s with turn := now, whose := dst }) (u := .int .i64 dst) rfl rfl rfl rfl))
            have hge := HS.out.ge
            clear h1 h2 h5 HT
            go_enter Tryz.func145, Tryz.ntmps145
            go_wp2_with fail
            go_ret
            exact stepP_yes HO.out HR.out (bk_put2 HS.out)
          · have HO := Lib.hid (show turnS s was now src dst by_ = none by rw [HT.out, if_neg fun h => h5 h.2.2.2])
            have h5b : (now != was + by_) = true := by rw [bne_iff_ne]; exact h5
            clear h1 h2 h5 HT
            go_enter Tryz.func145, Tryz.ntmps145
            go_wp2_with fail
            go_ret
            exact stepP_no HO.out (Bk.refl _ _)
        · have HO := Lib.hid (show turnS s was now src dst by_ = none by rw [HT.out, if_neg fun h => h4 (by have := h.2.2.1.2; rw [HNN.out]; exact this)])
          clear h1 h2 HT
          go_enter Tryz.func145, Tryz.ntmps145
          go_wp2_with fail
          go_ret
          exact stepP_no HO.out (Bk.refl _ _)
      · have HO := Lib.hid (show turnS s was now src dst by_ = none by rw [HT.out, if_neg fun h => h3 h.2.2.1.1])
        clear h1 h2 HT
        go_enter Tryz.func145, Tryz.ntmps145
        go_wp2_with fail
        go_ret
        exact stepP_no HO.out (Bk.refl _ _)
    · have HO := Lib.hid (show turnS s was now src dst by_ = none by rw [HT.out, if_neg fun h => h2 h.2.1])
      have h2b : (s.whose != src) = true := by rw [bne_iff_ne]; exact h2
      clear h1 HT
      go_enter Tryz.func145, Tryz.ntmps145
      go_wp2_with fail
      go_ret
      exact stepP_no HO.out (Bk.refl _ _)
  · have HO := Lib.hid (show turnS s was now src dst by_ = none by rw [HT.out, if_neg fun h => h1 h.1])
    have h1b : (s.turn != was) = true := by rw [bne_iff_ne]; exact h1
    clear HT
    go_enter Tryz.func145, Tryz.ntmps145
    go_wp2_with fail
    go_ret
    exact stepP_no HO.out (Bk.refl _ _)
set_option maxHeartbeats 2000000 in
theorem out_any (g base : Nat) (x : SV) (s : St) (w : World) (hs : StAt w g base x s) (hz : Sz s) (p : Int) (now : Bool) :
    Calls Tryz.prog 140 #[.pointer (some ⟨g, 0, none⟩), .int .i64 p, .bool now] w (StepPost s (outS s p now) g base w) := by
  have HS := Lib.hid hs
  have hp := hz.p
  obtain ⟨c0, c1, c2, c3, c4, c5, c6⟩ := hs.cells
  have hlt := hs.blk.lt
  have HT := Lib.hid (show outS s p now = if Within p s.players.length ∧ (s.players.getD p.toNat zeroPl).out ≠ now then some { s with players := s.players.set p.toNat { s.players.getD p.toNat zeroPl with out := now } } else none from rfl)
  obtain ⟨n, hnn⟩ : ∃ n, n = s.players.length := ⟨_, rfl⟩
  rw [← hnn] at hp c0
  have HNN := Lib.hid hnn
  clear hs hz hnn
  by_cases h1 : 0 ≤ p
  · obtain ⟨k, rfl⟩ := Int.eq_ofNat_of_zero_le h1
    by_cases h2 : k < n
    · have h2I : (k : Int) < n := by omega
      have hpo := HS.out.own.p
      rw [← HNN.out] at hpo
      obtain ⟨gp, cp, hpv, hgb, hnc, cur, hgg⟩ := G.own_addr hpo (by omega)
      simp only [Value.slice.injEq, true_and] at hpv
      obtain ⟨hpa, hpc⟩ := hpv
      rw [hpa] at c0 hpo
      obtain ⟨y, hy⟩ : ∃ y, y = s.players.getD k zeroPl := ⟨_, rfl⟩
      have hrd := G.RdS.of_own hpo
      obtain ⟨b, off, e, hrv⟩ := hrd.2 (by omega)
      simp only [Option.some.injEq, Addr.mk.injEq, and_true] at e
      obtain ⟨rfl, rfl⟩ := e
      obtain ⟨d0, d1, d2⟩ := pl_at hrv (k := k) (by rw [← HNN.out]; exact h2) hy.symm
      simp only [Nat.zero_add] at d0 d1 d2
      have hfr := hpo.frozenAt (k * 3 + 2)
      have HY := Lib.hid hy
      have HPA := Lib.hid hpa
      have hglt := World.block_lt_of_cell? _ _ d0
      have HGB := Lib.hid hgb
      clear hrv hrd hpo hgg hy hpa hpc hgb
      by_cases h3 : y.out = now
      · have HO := Lib.hid (show outS s k now = none by rw [HT.out, if_neg fun h => h.2 (by rw [Int.toNat_natCast, ← HY.out]; exact h3)])
        rw [h3] at d2
        clear h3 HT
        have hnn : (now == now) = true := by simp
        go_enter Tryz.func140, Tryz.ntmps140
        go_wp2_with fail
        go_ret
        exact stepP_no HO.out (Bk.refl _ _)
      · have HO := Lib.hid (show outS s k now = some { s with players := s.players.set k { y with out := now } } by
          rw [HT.out, Int.toNat_natCast, ← HY.out, if_pos ⟨⟨by omega, by rw [← HNN.out]; exact h2I⟩, h3⟩])
        have h3b : (y.out == now) = false := by
          cases h4 : y.out <;> cases now <;> simp_all
        have HR := Lib.hid (HS.out.own.pset (j := 2) (u := .bool now) (y := { y with out := now }) HPA.out (by rw [← HNN.out]; exact h2) (by omega) (by rw [← HY.out]; rfl))
        have HBK := Lib.hid (blk_far HS.out.blk HS.out.own.p (stored_by HS.out.own.p HPA.out (k * 3 + 2) (.bool now)) (by decide))
        clear h3 HT
        go_enter Tryz.func140, Tryz.ntmps140
        go_wp2_with fail
        go_ret
        exact stepP_yes HO.out ⟨by have := HBK.out; simpa [SV.arr] using this, HR.out, HS.out.ge⟩ (bk_put HGB.out (StBlk.own HS.out.own.p (by rw [HPA.out]; rfl) (by decide)))
    · have HO := Lib.hid (show outS s k now = none by rw [HT.out, if_neg fun h => h2 (by have := h.1.2; rw [← HNN.out] at this; omega)])
      have h2I : ¬ (k : Int) < n := by omega
      clear HT
      go_enter Tryz.func140, Tryz.ntmps140
      go_wp2_with fail
      go_ret
      exact stepP_no HO.out (Bk.refl _ _)
  · have HO := Lib.hid (show outS s p now = none by rw [HT.out, if_neg fun h => h1 h.1.1])
    clear HT
    go_enter Tryz.func140, Tryz.ntmps140
    go_wp2_with fail
    go_ret
    exact stepP_no HO.out (Bk.refl _ _)
end Go.Proofs.YtmhklnjmeoeanaaGreatDoor.D
namespace Go.Proofs.YtmhklnjmeoeanaaGreatDoor.D
open Go Go.RowKit
set_option linter.unusedVariables false
set_option linter.unusedSimpArgs false
/-- The same cards, by kinds and owners. -/
def SameKO (s t : St) : Prop := t.cards.length = s.cards.length ∧ t.zones.length = s.zones.length ∧ ∀ i, i < s.cards.length → (t.cards.getD i zeroCd).kind = (s.cards.getD i zeroCd).kind ∧ (t.cards.getD i zeroCd).owner = (s.cards.getD i zeroCd).owner
theorem SameKO.refl (s : St) : SameKO s s := ⟨rfl, rfl, fun _ _ => ⟨rfl, rfl⟩⟩
theorem SameKO.of_cards {s t : St} (h : t.cards = s.cards) (hz : t.zones.length = s.zones.length) : SameKO s t := ⟨by rw [h], hz, fun i _ => by rw [h]; exact ⟨rfl, rfl⟩⟩
theorem SameKO.symm {s t : St} (h : SameKO s t) : SameKO t s := ⟨h.1.symm, h.2.1.symm, fun i hi => by
  obtain ⟨a, b⟩ := h.2.2 i (by rw [← h.1]; exact hi)
  exact ⟨a.symm, b.symm⟩⟩
theorem SameKO.trans {s t u : St} (h : SameKO s t) (k : SameKO t u) : SameKO s u := ⟨k.1.trans h.1, k.2.1.trans h.2.1, fun i hi => by
  obtain ⟨a, b⟩ := h.2.2 i hi
  obtain ⟨c, d⟩ := k.2.2 i (by rw [h.1]; exact hi)
  exact ⟨c.trans a, d.trans b⟩⟩
/-- Zones that hold the same cards. -/
theorem May.zones {s : St} (h : May s) {zs : List (List Int)} (hl : zs.length = s.zones.length) (hp : zs.flatten.Perm s.zones.flatten) : May { s with zones := zs } :=
  ⟨h.n2, h.n4, h.m1, h.m256, hl.trans h.zn, h.pl, h.cd, fun c hc => h.rng c (hp.mem_iff.1 hc), hp.nodup_iff.2 h.nd, hp.length_eq.trans h.all, h.turn, h.whose, h.fin, h.won, h.lost⟩
/-! ### Move -/
theorem moveOk_nat {s : St} {card src srcAt dst dstAt : Int} (h : MoveOk s card src srcAt dst dstAt) : MvOk s.zones card src.toNat srcAt.toNat dst.toNat dstAt.toNat ∧ 0 ≤ src ∧ 0 ≤ srcAt ∧ 0 ≤ dst ∧ 0 ≤ dstAt := by
  obtain ⟨⟨a1, a2⟩, ⟨b1, b2⟩, c, ⟨d1, d2⟩, e, f1, f2⟩ := h
  unfold zone at d2 e f2
  have hpos : 0 < (s.zones.getD src.toNat []).length := by omega
  refine ⟨⟨by omega, by omega, fun g => c ⟨by omega, by omega⟩, by omega, e, ?_⟩, a1, d1, b1, f1⟩
  by_cases hs : src = dst
  · subst hs
    rw [if_pos rfl] at f2 ⊢
    omega
  · rw [if_neg hs] at f2
    rw [if_neg (by omega)]
    omega
theorem moveOk_int {s : St} {card src srcAt dst dstAt : Int} (h : MvOk s.zones card src.toNat srcAt.toNat dst.toNat dstAt.toNat) (h1 : 0 ≤ src) (h2 : 0 ≤ srcAt) (h3 : 0 ≤ dst) (h4 : 0 ≤ dstAt) : MoveOk s card src srcAt dst dstAt := by
  obtain ⟨a, b, c, d, e, f⟩ := h
  refine ⟨⟨h1, by omega⟩, ⟨h3, by omega⟩, fun g => c (by rw [g.1, g.2]; exact ⟨rfl, rfl⟩), ⟨h2, by unfold zone; omega⟩, e, h4, ?_⟩
  unfold zone
  by_cases hs : src = dst
  · subst hs
    rw [if_pos rfl] at f ⊢
    omega
  · rw [if_neg (by omega)] at f
    rw [if_neg hs]
    omega
theorem moveZ_nat (zs : List (List Int)) (card src srcAt dst dstAt : Int) : moveZ zs card src srcAt dst dstAt = mvZ zs card src.toNat srcAt.toNat dst.toNat dstAt.toNat := rfl
theorem moveS_facts {s t : St} {card src srcAt dst dstAt : Int} (h : moveS s card src srcAt dst dstAt = some t) (hm : May s) : moveS t card dst dstAt src srcAt = some s ∧ May t ∧ SameKO s t ∧ t ≠ s := by
  unfold moveS at h
  by_cases hk : MoveOk s card src srcAt dst dstAt
  · rw [if_pos hk] at h
    obtain rfl := Option.some.inj h
    obtain ⟨hn, h1, h2, h3, h4⟩ := moveOk_nat hk
    obtain ⟨b1, b2⟩ := mv_back hn
    have hk2 : MoveOk { s with zones := moveZ s.zones card src srcAt dst dstAt } card dst dstAt src srcAt := moveOk_int (by rw [moveZ_nat]; exact b1) h3 h4 h1 h2
    refine ⟨?_, hm.zones (by rw [moveZ_nat, mv_length]) (by rw [moveZ_nat]; exact mv_perm hn), SameKO.of_cards rfl (by simp only; rw [moveZ_nat, mv_length]), fun e => ?_⟩
    · unfold moveS
      rw [if_pos hk2]
      simp only
      rw [moveZ_nat, moveZ_nat, b2]
    · exact mv_ne hn hm.nd (congrArg St.zones e)
  · rw [if_neg hk] at h
    cases h
/-! ### Change -/
theorem card_set_get (c : Cd) (f v : Int) : cardF (cardSet c f v) f = v := by
  unfold cardF cardSet
  split
  · rfl
  · split
    · rfl
    · split <;> rfl
theorem card_set_back (c : Cd) (f v : Int) : cardSet (cardSet c f v) f (cardF c f) = c := by
  unfold cardF cardSet
  split
  · rfl
  · split
    · rfl
    · split <;> rfl
theorem pl_set_get (c : Pl) (f v : Int) : plF (plSet c f v) f = v := by
  unfold plF plSet
  split <;> rfl
theorem pl_set_back (c : Pl) (f v : Int) : plSet (plSet c f v) f (plF c f) = c := by
  unfold plF plSet
  split <;> rfl
theorem card_stat {n : Int} {c : Cd} (h : CardOk n c) (f : Int) : Stat (cardF c f) := by
  obtain ⟨_, _, h1, h2, h3, h4⟩ := h
  unfold cardF
  repeat' split
  all_goals assumption
theorem card_set_ok {n v : Int} {c : Cd} (h : CardOk n c) (f : Int) (hv : Stat v) : CardOk n (cardSet c f v) := by
  obtain ⟨a, b, h1, h2, h3, h4⟩ := h
  unfold cardSet
  repeat' split
  all_goals exact ⟨a, b, by assumption, by assumption, by assumption, by assumption⟩
theorem card_set_ko (c : Cd) (f v : Int) : (cardSet c f v).kind = c.kind ∧ (cardSet c f v).owner = c.owner := by
  unfold cardSet
  repeat' split
  all_goals exact ⟨rfl, rfl⟩
theorem getF_stat {s : St} {f n x : Int} (hm : May s) (h : getF s f n = some x) : Stat x := by
  unfold getF at h
  split at h
  · split at h
    · rename_i h1 h2
      obtain rfl := Option.some.inj h
      exact card_stat (hm.cd _ (mem_getD (by have := h2.2; unfold Within at this; omega))) f
    · cases h
  · split at h
    · rename_i h1 h2
      obtain rfl := Option.some.inj h
      obtain ⟨a, b⟩ := hm.pl _ (mem_getD (d := zeroPl) (i := n.toNat) (by have := h2.2; unfold Within at this; omega))
      unfold plF
      split <;> assumption
    · cases h
theorem getF_setF {s : St} {f n x v : Int} (h : getF s f n = some x) : getF (setF s f n v) f n = some v ∧ setF (setF s f n v) f n x = s := by
  unfold getF at h
  by_cases hf : f ≤ 4
  · rw [if_pos hf] at h
    split at h
    · rename_i h2
      obtain rfl := Option.some.inj h
      have hl : n.toNat < s.cards.length := by have := h2.2; unfold Within at this; omega
      unfold getF setF
      simp only [if_pos hf]
      rw [if_pos ⟨h2.1, by have := h2.2; unfold Within at this ⊢; rw [List.length_set]; exact this⟩]
      rw [getD_set_eq hl, card_set_get, List.set_set, card_set_back, set_self hl]
      exact ⟨rfl, rfl⟩
    · cases h
  · rw [if_neg hf] at h
    split at h
    · rename_i h2
      obtain rfl := Option.some.inj h
      have hl : n.toNat < s.players.length := by have := h2.2; unfold Within at this; omega
      unfold getF setF
      simp only [if_neg hf]
      rw [if_pos ⟨h2.1, by have := h2.2; unfold Within at this ⊢; rw [List.length_set]; exact this⟩]
      rw [getD_set_eq hl, pl_set_get, List.set_set, pl_set_back, set_self hl]
      exact ⟨rfl, rfl⟩
    · cases h
theorem mem_set_of {α : Type} {l : List α} {i : Nat} {a x : α} (h : x ∈ l.set i a) : x = a ∨ x ∈ l := (List.mem_or_eq_of_mem_set h).symm
theorem setF_may {s : St} {f n x v : Int} (hm : May s) (h : getF s f n = some x) (hv : Stat v) : May (setF s f n v) ∧ SameKO s (setF s f n v) := by
  unfold getF at h
  by_cases hf : f ≤ 4
  · rw [if_pos hf] at h
    split at h
    · rename_i h2
      have hl : n.toNat < s.cards.length := by have := h2.2; unfold Within at this; omega
      have hcl : (s.cards.set n.toNat (cardSet (s.cards.getD n.toNat zeroCd) f v)).length = s.cards.length := List.length_set ..
      unfold setF
      rw [if_pos hf]
      refine ⟨⟨hm.n2, hm.n4, by simp only; rw [hcl]; exact hm.m1, by simp only; rw [hcl]; exact hm.m256, hm.zn, hm.pl, fun c hc => ?_, by simp only; rw [hcl]; exact hm.rng, hm.nd, by simp only; rw [hcl]; exact hm.all, hm.turn, hm.whose, hm.fin, hm.won, hm.lost⟩, hcl, rfl, fun i hi => ?_⟩
      · rcases mem_set_of hc with rfl | hc
        · exact card_set_ok (hm.cd _ (mem_getD hl)) f hv
        · exact hm.cd c hc
      · simp only
        by_cases hin : n.toNat = i
        · subst hin
          rw [getD_set_eq hl]
          exact card_set_ko _ _ _
        · rw [getD_set_ne hin]
          exact ⟨rfl, rfl⟩
    · cases h
  · rw [if_neg hf] at h
    split at h
    · rename_i h2
      have hl : n.toNat < s.players.length := by have := h2.2; unfold Within at this; omega
      have hpl : (s.players.set n.toNat (plSet (s.players.getD n.toNat zeroPl) f v)).length = s.players.length := List.length_set ..
      unfold setF
      rw [if_neg hf]
      refine ⟨⟨by simp only; rw [hpl]; exact hm.n2, by simp only; rw [hpl]; exact hm.n4, hm.m1, hm.m256, by simp only; rw [hpl]; exact hm.zn, fun p hp => ?_, by simp only; rw [hpl]; exact hm.cd, hm.rng, hm.nd, hm.all, hm.turn, by simp only; rw [hpl]; exact hm.whose, hm.fin, by simp only; rw [hpl]; exact hm.won, hm.lost⟩, rfl, rfl, fun i hi => ⟨rfl, rfl⟩⟩
      rcases mem_set_of hp with rfl | hp
      · have := hm.pl _ (mem_getD (d := zeroPl) hl)
        unfold plSet
        split
        · exact ⟨hv, this.2⟩
        · exact ⟨this.1, hv⟩
      · exact hm.pl p hp
    · cases h
theorem changeS_facts {s t : St} {f n was now : Int} (h : changeS s f n was now = some t) (hm : May s) : changeS t f n now was = some s ∧ May t ∧ SameKO s t ∧ t ≠ s := by
  unfold changeS at h
  split at h
  · rename_i hk
    obtain ⟨hg, hne, hs⟩ := hk
    obtain rfl := Option.some.inj h
    obtain ⟨g1, g2⟩ := getF_setF (v := now) hg
    obtain ⟨m1, m2⟩ := setF_may hm hg hs
    refine ⟨?_, m1, m2, fun e => ?_⟩
    · unfold changeS
      rw [if_pos ⟨g1, fun e => hne e.symm, getF_stat hm hg⟩, g2]
    · rw [e, hg] at g1
      exact hne (Option.some.inj g1)
  · cases h
/-! ### Shuffle, out, turn, end -/
theorem shuffleS_facts {s t : St} {z : Int} {order : List Int} {back : Bool} (h : shuffleS s z order back = some t) (hm : May s) : shuffleS t z order (!back) = some s ∧ May t ∧ SameKO s t ∧ t ≠ s := by
  unfold shuffleS at h
  split at h
  · rename_i hk
    obtain ⟨hw, ho, hr⟩ := hk
    have hl : z.toNat < s.zones.length := by unfold Within at hw; omega
    unfold zone at ho h
    obtain rfl := Option.some.inj h
    obtain ⟨l, hlz⟩ : ∃ l, l = s.zones.getD z.toNat [] := ⟨_, rfl⟩
    rw [← hlz] at ho ⊢
    have hnd : l.Nodup := by rw [hlz]; exact nodup_zone hm.nd hl
    have hp : (if back = true then shufB order l else shufF order l).Perm l := by
      cases back
      · exact shufF_perm ho
      · exact shufB_perm ho
    have hzl : (s.zones.set z.toNat (if back = true then shufB order l else shufF order l)).length = s.zones.length := List.length_set ..
    have hback : (if (!back) = true then shufB order (if back = true then shufB order l else shufF order l) else shufF order (if back = true then shufB order l else shufF order l)) = l := by
      cases back
      · exact shuf_bf ho
      · exact shuf_fb ho
    refine ⟨?_, hm.zones hzl (set_perm hl (by rw [← hlz]; exact hp)), SameKO.of_cards rfl hzl, fun e => ?_⟩
    · unfold shuffleS zone
      simp only
      rw [getD_set_eq hl, if_pos ⟨by unfold Within at hw ⊢; rw [hzl]; exact hw, by rw [hp.length_eq]; exact ho, hr⟩, hback, List.set_set, hlz, set_self hl]
    · have e2 := congrArg (fun t : St => t.zones.getD z.toNat []) e
      simp only at e2
      rw [getD_set_eq hl, ← hlz] at e2
      have e3 : shufF order l = l := by
        cases back
        · exact e2
        · have := shuf_fb ho
          rw [show shufB order l = l from e2] at this
          exact this
      exact shuf_ne ho hnd hr e3
  · cases h
theorem outS_facts {s t : St} {p : Int} {now : Bool} (h : outS s p now = some t) (hm : May s) : outS t p (!now) = some s ∧ May t ∧ SameKO s t ∧ t ≠ s := by
  unfold outS at h
  split at h
  · rename_i hk
    obtain ⟨hw, ho⟩ := hk
    have hl : p.toNat < s.players.length := by unfold Within at hw; omega
    obtain rfl := Option.some.inj h
    have hpl : (s.players.set p.toNat { s.players.getD p.toNat zeroPl with out := now }).length = s.players.length := List.length_set ..
    have hov : (s.players.getD p.toNat zeroPl).out = !now := by
      cases h1 : (s.players.getD p.toNat zeroPl).out <;> cases now <;> simp_all
    refine ⟨?_, ⟨by simp only; rw [hpl]; exact hm.n2, by simp only; rw [hpl]; exact hm.n4, hm.m1, hm.m256, by simp only; rw [hpl]; exact hm.zn, fun q hq => ?_, by simp only; rw [hpl]; exact hm.cd, hm.rng, hm.nd, hm.all, hm.turn, by simp only; rw [hpl]; exact hm.whose, hm.fin, by simp only; rw [hpl]; exact hm.won, hm.lost⟩, ⟨rfl, rfl, fun i hi => ⟨rfl, rfl⟩⟩, fun e => ?_⟩
    · unfold outS
      simp only
      rw [getD_set_eq hl, if_pos ⟨by unfold Within at hw ⊢; rw [hpl]; exact hw, by cases now <;> simp⟩, List.set_set]
      simp only
      rw [← hov, set_self hl]
    · rcases mem_set_of hq with rfl | hq
      · have h9 := hm.pl _ (mem_getD (d := zeroPl) hl)
        exact ⟨h9.1, h9.2⟩
      · exact hm.pl q hq
    · have e2 := congrArg (fun t : St => (t.players.getD p.toNat zeroPl).out) e
      simp only at e2
      rw [getD_set_eq hl] at e2
      exact ho e2.symm
  · cases h
/-- An event that is done is taken back. -/
theorem do_facts {s t : St} {e : Ev} (h : doE s e = some t) (hm : May s) : backE t e = some s ∧ May t ∧ SameKO s t ∧ t ≠ s := by
  unfold doE at h
  unfold backE
  split at h
  · rename_i hk
    rw [if_pos hk]
    exact moveS_facts h hm
  · rename_i k1
    rw [if_neg k1]
    split at h
    · rename_i hk
      rw [if_pos hk]
      split at h
      · rename_i hf
        rw [if_pos hf]
        exact changeS_facts h hm
      · cases h
    · rename_i k2
      rw [if_neg k2]
      split at h
      · rename_i hk
        rw [if_pos hk]
        split at h
        · rename_i hf
          rw [if_pos hf]
          exact changeS_facts h hm
        · cases h
      · rename_i k3
        rw [if_neg k3]
        split at h
        · rename_i hk
          rw [if_pos hk]
          exact shuffleS_facts h hm
        · rename_i k4
          rw [if_neg k4]
          split at h
          · rename_i hk
            rw [if_pos hk]
            exact outS_facts h hm
          · rename_i k5
            rw [if_neg k5]
            split at h
            · rename_i hk
              rw [if_pos hk]
              unfold turnS at h
              split at h
              · rename_i hc
                obtain ⟨c1, c2, c3, c4⟩ := hc
                obtain rfl := Option.some.inj h
                have ht := hm.turn
                have hwh := hm.whose
                refine ⟨?_, ⟨hm.n2, hm.n4, hm.m1, hm.m256, hm.zn, hm.pl, hm.cd, hm.rng, hm.nd, hm.all, by simp only; omega, c3, hm.fin, hm.won, hm.lost⟩, SameKO.of_cards rfl rfl, fun g => ?_⟩
                · rw [if_pos (by omega)]
                  unfold turnS
                  simp only
                  rw [if_pos ⟨trivial, trivial, by rw [← c2]; exact hwh, by omega⟩, ← c1, ← c2]
                · have := congrArg St.turn g
                  simp only at this
                  omega
              · cases h
            · rename_i k6
              rw [if_neg k6]
              split at h
              · rename_i hk
                rw [if_pos hk]
                unfold endS at h
                split at h
                · rename_i hc
                  obtain ⟨c1, c2⟩ := hc
                  obtain rfl := Option.some.inj h
                  have hlo := hm.lost
                  refine ⟨?_, ⟨hm.n2, hm.n4, hm.m1, hm.m256, hm.zn, hm.pl, hm.cd, hm.rng, hm.nd, hm.all, hm.turn, hm.whose, by simp only; omega, fun g => ?_, fun g => ?_⟩, SameKO.of_cards rfl rfl, fun g => ?_⟩
                  · unfold endB
                    simp only
                    rw [if_pos ⟨by omega, trivial, trivial⟩]
                    have h9 := hlo (by omega)
                    clear hm hlo c2
                    obtain ⟨a1, a2, a3, a4, a5, a6, a7⟩ := s
                    simp only at c1 h9 ⊢
                    rw [c1, h9]
                  · simp only at g ⊢
                    rcases c2 with ⟨_, c⟩ | ⟨c, _⟩
                    · exact c
                    · omega
                  · simp only at g ⊢
                    rcases c2 with ⟨c, _⟩ | ⟨_, c⟩
                    · omega
                    · exact c
                  · have := congrArg St.fin g
                    simp only at this
                    omega
                · cases h
              · cases h
/-- What leads to a state leads to it again. -/
theorem back_facts {s t : St} {e : Ev} (h : backE s e = some t) (hm : May s) (ht : May t) : doE t e = some s ∧ SameKO s t := by
  unfold backE at h
  unfold doE
  split at h
  · rename_i hk
    rw [if_pos hk]
    have := moveS_facts h hm
    exact ⟨this.1, this.2.2.1⟩
  · rename_i k1
    rw [if_neg k1]
    split at h
    · rename_i hk
      rw [if_pos hk]
      split at h
      · rename_i hf
        rw [if_pos hf]
        have := changeS_facts h hm
        exact ⟨this.1, this.2.2.1⟩
      · cases h
    · rename_i k2
      rw [if_neg k2]
      split at h
      · rename_i hk
        rw [if_pos hk]
        split at h
        · rename_i hf
          rw [if_pos hf]
          have := changeS_facts h hm
          exact ⟨this.1, this.2.2.1⟩
        · cases h
      · rename_i k3
        rw [if_neg k3]
        split at h
        · rename_i hk
          rw [if_pos hk]
          have := shuffleS_facts h hm
          exact ⟨this.1, this.2.2.1⟩
        · rename_i k4
          rw [if_neg k4]
          split at h
          · rename_i hk
            rw [if_pos hk]
            have := outS_facts h hm
            exact ⟨this.1, this.2.2.1⟩
          · rename_i k5
            rw [if_neg k5]
            split at h
            · rename_i hk
              rw [if_pos hk]
              split at h
              · rename_i hw
                unfold turnS at h
                split at h
                · rename_i hc
                  obtain ⟨c1, c2, c3, c4⟩ := hc
                  obtain rfl := Option.some.inj h
                  have hwh := hm.whose
                  refine ⟨?_, SameKO.of_cards rfl rfl⟩
                  unfold turnS
                  simp only
                  rw [if_pos ⟨trivial, trivial, by rw [← c2]; exact hwh, by omega⟩, ← c1, ← c2]
                · cases h
              · cases h
            · rename_i k6
              rw [if_neg k6]
              split at h
              · rename_i hk
                rw [if_pos hk]
                unfold endB at h
                split at h
                · rename_i hc
                  obtain ⟨c1, c2, c3⟩ := hc
                  obtain rfl := Option.some.inj h
                  have hf := hm.fin
                  have hwo := hm.won
                  have hlo := hm.lost
                  refine ⟨?_, SameKO.of_cards rfl rfl⟩
                  unfold endS
                  simp only
                  have hc : (e.now = 1 ∧ Within e.player s.players.length) ∨ (e.now = 2 ∧ e.player = 0) := by
                    by_cases h1 : s.fin = 1
                    · exact .inl ⟨by omega, by rw [← c3]; exact hwo h1⟩
                    · exact .inr ⟨by omega, by rw [← c3]; exact hlo h1⟩
                  rw [if_pos ⟨trivial, hc⟩, ← c2, ← c3]
                · cases h
              · cases h
end Go.Proofs.YtmhklnjmeoeanaaGreatDoor.D

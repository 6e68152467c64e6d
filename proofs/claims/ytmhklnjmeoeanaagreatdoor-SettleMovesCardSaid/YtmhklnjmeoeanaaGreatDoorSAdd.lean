/- The contract of the closure of settle.due that does what it is handed, and lays it behind the others. -/
import Derived.Test.YtmhklnjmeoeanaaGreatDoorSPlain
import Derived.Test.YtmhklnjmeoeanaaGreatDoorDRange
import Derived.Test.YtmhklnjmeoeanaaGreatDoorDBackI
import Derived.Test.YtmhklnjmeoeanaaGreatDoorDBack
import Derived.Test.YtmhklnjmeoeanaaGreatDoorDCopyEvs
namespace Go.Proofs.YtmhklnjmeoeanaaGreatDoor.D
open Go Go.RowKit
set_option linter.unusedVariables false
set_option linter.unusedSimpArgs false
/-- The player at a place of the ring. -/
def ringAt (s : St) (k : Nat) : Int := (s.whose + (k : Int)) % (s.players.length : Int)
theorem ringL_eq (s : St) : ringL s = (List.range s.players.length).map (ringAt s) := rfl
theorem ringAt_in {s : St} (h : May s) (k : Nat) : Within (ringAt s k) s.players.length := by
  have hn := h.n2
  unfold ringAt Within
  exact ⟨Int.emod_nonneg _ (by omega), Int.emod_lt_of_pos _ (by omega)⟩
structure Good (s : St) (a : St × List Ev) : Prop where
  may : May a.1
  ko : SameKO s a.1
theorem Good.start {s : St} (h : May s) : Good s (s, []) := ⟨h, SameKO.refl _⟩
theorem Good.players {s : St} {a : St × List Ev} (g : Good s a) (h : May s) : a.1.players.length = s.players.length := by
  have h1 := h.zn
  have h2 := g.may.zn
  have h3 := g.ko.2.1
  omega
/-- What the closure asks of the events that it is handed. -/
def CanDo (t : St) (es : List Ev) : Prop := es.length ≤ 1 ∧ ∀ e ∈ es, e.Fits ∧ e.order.length ≤ 33554432 ∧ ∃ u, stepE t e false = some u
theorem good_do {s : St} {a : St × List Ev} {es : List Ev} (g : Good s a) (hl : es.length ≤ 1) (hf : ∀ e ∈ es, Fits1 a.1 e) : Good s (doEs a es) ∧ (doEs a es).2.length ≤ a.2.length + 1 ∧ ∀ e ∈ es, ∃ u, stepE a.1 e false = some u := by
  cases es with
  | nil => exact ⟨g, Nat.le_succ _, fun e h => by cases h⟩
  | cons e es =>
    cases es with
    | cons e2 es => simp at hl
    | nil =>
      obtain ⟨hp, u, hu⟩ := hf e (by simp)
      have hs := step_fits hp hu
      obtain ⟨_, hm, hk, _⟩ := step_facts hs g.may
      rw [doEs_one hs]
      refine ⟨⟨hm, g.ko.trans hk⟩, by simp, fun e' he' => ?_⟩
      rw [List.mem_singleton.1 he']
      exact ⟨u, hs⟩
theorem kill_good {s : St} {a : St × List Ev} {c : Int} (h : May s) (g : Good s a) (hc : Within c s.cards.length) :
    (Within c a.1.cards.length ∧ Within (graveOf s c) a.1.zones.length) ∧ Good s (killE s a c) ∧ (killE s a c).2.length ≤ a.2.length + 1 ∧ CanDo a.1 (moveEv a.1 c (graveOf s c) false) := by
  obtain ⟨q, hq, hql, _⟩ := grave_ok h hc
  have hc2 : Within c a.1.cards.length := by rw [g.ko.1]; exact hc
  have hz2 : Within (graveOf s c) a.1.zones.length := by rw [g.ko.2.1, hq]; exact ⟨by omega, by omega⟩
  obtain ⟨k1, k2, k3⟩ := good_do g (moveEv_one _ _ _ _) (moveEv_fits (first := false) g.may hc2 hz2)
  refine ⟨⟨hc2, hz2⟩, k1, k2, moveEv_one _ _ _ _, fun e he => ?_⟩
  obtain ⟨r1, r2⟩ := moveEv_range g.may hc2 hz2 e he
  exact ⟨r1, by rw [r2]; simp, k3 e he⟩
theorem outEv_one (s : St) (p : Int) : (outEv s p).length ≤ 1 := by
  unfold outEv
  split <;> simp
theorem drop_good {s : St} {a : St × List Ev} {p : Int} (h : May s) (g : Good s a) (hp : Within p s.players.length) :
    Within p a.1.players.length ∧ Good s (doEs a (outEv a.1 p)) ∧ (doEs a (outEv a.1 p)).2.length ≤ a.2.length + 1 ∧ CanDo a.1 (outEv a.1 p) := by
  have hp2 : Within p a.1.players.length := by rw [g.players h]; exact hp
  obtain ⟨k1, k2, k3⟩ := good_do g (outEv_one _ _) (outEv_fits hp2)
  refine ⟨hp2, k1, k2, outEv_one _ _, fun e he => ?_⟩
  obtain ⟨r1, r2⟩ := outEv_range g.may hp2 e he
  exact ⟨r1, by rw [r2]; simp, k3 e he⟩
theorem kills_good {s : St} (h : May s) : ∀ (cs : List Int) {a : St × List Ev}, Good s a → (∀ c ∈ cs, Within c s.cards.length) → Good s (cs.foldl (killE s) a) ∧ (cs.foldl (killE s) a).2.length ≤ a.2.length + cs.length
  | [], a, g, _ => ⟨g, Nat.le_refl _⟩
  | c :: cs, a, g, hc => by
    obtain ⟨_, g1, l1, _⟩ := kill_good h g (hc c (by simp))
    obtain ⟨g2, l2⟩ := kills_good h cs g1 fun d hd => hc d (List.mem_cons_of_mem _ hd)
    refine ⟨g2, ?_⟩
    rw [List.foldl_cons, List.length_cons]
    omega
theorem drops_good {s : St} (h : May s) : ∀ (ps : List Int) {a : St × List Ev}, Good s a → (∀ p ∈ ps, Within p s.players.length) → Good s (ps.foldl (dropE s) a) ∧ (ps.foldl (dropE s) a).2.length ≤ a.2.length + ps.length
  | [], a, g, _ => ⟨g, Nat.le_refl _⟩
  | p :: ps, a, g, hp => by
    obtain ⟨_, g1, l1, _⟩ := drop_good h g (hp p (by simp))
    have key : Good s (dropE s a p) ∧ (dropE s a p).2.length ≤ a.2.length + 1 := by
      unfold dropE
      split
      · exact ⟨g, Nat.le_succ _⟩
      · split
        · exact ⟨g1, l1⟩
        · exact ⟨g, Nat.le_succ _⟩
    obtain ⟨g2, l2⟩ := drops_good h ps key.1 fun d hd => hp d (List.mem_cons_of_mem _ hd)
    refine ⟨g2, ?_⟩
    rw [List.foldl_cons, List.length_cons]
    have := key.2
    omega
theorem zone_card {s : St} (h : May s) {p c : Int} (hc : c ∈ zone s p) : Within c s.cards.length := by
  unfold zone at hc
  by_cases hz : p.toNat < s.zones.length
  · exact h.rng c (List.mem_flatten.2 ⟨_, mem_getD hz, hc⟩)
  · rw [List.getD_eq_getElem?_getD, List.getElem?_eq_none (by omega)] at hc
    cases hc
/-! ### Behind some rounds of the first loop -/
def kacc (s : St) (pre : List Nat) : St × List Ev := if s.fin ≠ 0 then (s, []) else (pre.flatMap fun k => spentL s (ringAt s k)).foldl (killE s) (s, [])
def kin (s : St) (pre : List Nat) (p : Int) (j : Nat) : St × List Ev := (((zone s (4 * p + 2)).take j).filter (spentB s)).foldl (killE s) (kacc s pre)
theorem kacc_nil (s : St) : kacc s [] = (s, []) := by unfold kacc; split <;> rfl
theorem kacc_end {s : St} (h : s.fin ≠ 0) (pre : List Nat) : kacc s pre = (s, []) := by unfold kacc; rw [if_pos h]
theorem spent_len {s : St} (h : May s) (p : Int) : (spentL s p).length ≤ 256 := by
  refine Nat.le_trans (List.length_filter_le _ _) ?_
  have := may_zone h (4 * p + 2).toNat
  exact this
theorem spents_len {s : St} (h : May s) : ∀ (pre : List Nat), (pre.flatMap fun k => spentL s (ringAt s k)).length ≤ 256 * pre.length
  | [] => by simp
  | k :: pre => by
    rw [List.flatMap_cons, List.length_append, List.length_cons]
    have h1 := spent_len h (ringAt s k)
    have h2 := spents_len h pre
    omega
theorem spents_in {s : St} (h : May s) (pre : List Nat) : ∀ c ∈ (pre.flatMap fun k => spentL s (ringAt s k)), Within c s.cards.length := fun c hc => by
  obtain ⟨k, _, hk⟩ := List.mem_flatMap.1 hc
  exact zone_card h (List.mem_filter.1 hk).1
theorem kacc_good {s : St} (h : May s) (pre : List Nat) : Good s (kacc s pre) ∧ (kacc s pre).2.length ≤ 256 * pre.length := by
  unfold kacc
  split
  · exact ⟨Good.start h, Nat.zero_le _⟩
  · obtain ⟨g, l⟩ := kills_good h _ (Good.start h) (spents_in h pre)
    refine ⟨g, Nat.le_trans l ?_⟩
    have := spents_len h pre
    simpa using this
theorem kin_good {s : St} (h : May s) (pre : List Nat) (p : Int) (j : Nat) : Good s (kin s pre p j) ∧ (kin s pre p j).2.length ≤ 256 * pre.length + 256 := by
  obtain ⟨g, l⟩ := kacc_good h pre
  obtain ⟨g2, l2⟩ := kills_good h (((zone s (4 * p + 2)).take j).filter (spentB s)) g fun c hc => zone_card h (List.mem_of_mem_take (List.mem_filter.1 hc).1)
  refine ⟨g2, Nat.le_trans l2 ?_⟩
  have h1 : (((zone s (4 * p + 2)).take j).filter (spentB s)).length ≤ (zone s (4 * p + 2)).length := Nat.le_trans (List.length_filter_le _ _) (by rw [List.length_take]; exact Nat.min_le_right _ _)
  have h2 : (zone s (4 * p + 2)).length ≤ 256 := may_zone h (4 * p + 2).toNat
  omega
theorem kin_zero (s : St) (pre : List Nat) (p : Int) : kin s pre p 0 = kacc s pre := by simp [kin]
theorem kin_next {s : St} {pre : List Nat} {p : Int} {j : Nat} (hj : j < (zone s (4 * p + 2)).length) : kin s pre p (j + 1) = if spentB s ((zone s (4 * p + 2)).getD j 0) = true then killE s (kin s pre p j) ((zone s (4 * p + 2)).getD j 0) else kin s pre p j := by
  unfold kin
  have e : (zone s (4 * p + 2)).getD j 0 = (zone s (4 * p + 2))[j] := by rw [List.getD_eq_getElem?_getD, List.getElem?_eq_getElem hj]; rfl
  rw [← List.take_append_getElem hj, List.filter_append, e]
  split
  · rename_i hs
    rw [List.filter_cons_of_pos hs, List.filter_nil, List.foldl_append]
    rfl
  · rename_i hs
    rw [List.filter_cons_of_neg hs, List.filter_nil, List.append_nil]
theorem kin_all {s : St} (h0 : s.fin = 0) (pre : List Nat) (k j : Nat) (hj : j = (zone s (4 * ringAt s k + 2)).length) : kin s pre (ringAt s k) j = kacc s (pre ++ [k]) := by
  subst hj
  unfold kin kacc
  rw [if_neg (by simpa using h0), if_neg (by simpa using h0), List.flatMap_append, List.foldl_append, List.take_length]
  simp [spentL]
theorem kacc_all {s : St} (h0 : s.fin = 0) : kacc s (List.range s.players.length) = killS s := by
  unfold kacc killS deadL
  rw [if_neg (by simpa using h0), ringL_eq, List.flatMap_map]
/-! ### Behind some rounds of the second loop -/
def dacc (s : St) (pre : List Nat) : St × List Ev := if s.fin ≠ 0 then (s, []) else (pre.map (ringAt s)).foldl (dropE s) (killS s)
theorem dacc_end {s : St} (h : s.fin ≠ 0) (pre : List Nat) : dacc s pre = (s, []) := by unfold dacc; rw [if_pos h]
theorem dacc_nil {s : St} : dacc s [] = kacc s (List.range s.players.length) := by
  unfold dacc
  split
  · rename_i h
    exact (kacc_end h _).symm
  · rename_i h
    rw [kacc_all (by simpa using h)]
    rfl
theorem dacc_next {s : St} (h0 : s.fin = 0) (pre : List Nat) (k : Nat) : dacc s (pre ++ [k]) = dropE s (dacc s pre) (ringAt s k) := by
  unfold dacc
  rw [if_neg (by simpa using h0), if_neg (by simpa using h0), List.map_append, List.foldl_append]
  rfl
theorem dacc_all {s : St} (h0 : s.fin = 0) : dacc s (List.range s.players.length) = dropS s := by
  unfold dacc dropS
  rw [if_neg (by simpa using h0), ringL_eq]
theorem dacc_good {s : St} (h : May s) (pre : List Nat) : Good s (dacc s pre) ∧ (dacc s pre).2.length ≤ 1024 + pre.length := by
  unfold dacc
  split
  · exact ⟨Good.start h, Nat.zero_le _⟩
  · rename_i h0
    have h0' : s.fin = 0 := by simpa using h0
    obtain ⟨g, l⟩ := kacc_good h (List.range s.players.length)
    rw [kacc_all h0'] at g l
    obtain ⟨g2, l2⟩ := drops_good h (pre.map (ringAt s)) g fun p hp => by
      obtain ⟨k, _, rfl⟩ := List.mem_map.1 hp
      exact ringAt_in h k
    refine ⟨g2, Nat.le_trans l2 ?_⟩
    have hn := h.n4
    rw [List.length_range] at l
    rw [List.length_map]
    omega
def inR (s : St) (pre : List Nat) : List Int := (pre.map (ringAt s)).filter (inB s)
def inLastR (s : St) (pre : List Nat) : Int := ((inR s pre).getLast?).getD 0
theorem inR_next (s : St) (pre : List Nat) (k : Nat) : inR s (pre ++ [k]) = if inB s (ringAt s k) = true then inR s pre ++ [ringAt s k] else inR s pre := by
  unfold inR
  rw [List.map_append, List.filter_append]
  split
  · rename_i h
    rw [List.map_singleton, List.filter_cons_of_pos h]
    rfl
  · rename_i h
    rw [List.map_singleton, List.filter_cons_of_neg h]
    simp
theorem inR_all (s : St) : inR s (List.range s.players.length) = inL s := by unfold inR inL; rw [ringL_eq]
theorem inR_len (s : St) (pre : List Nat) : (inR s pre).length ≤ pre.length := by
  unfold inR
  exact Nat.le_trans (List.length_filter_le _ _) (by simp)
end Go.Proofs.YtmhklnjmeoeanaaGreatDoor.D
namespace Go.Proofs.YtmhklnjmeoeanaaGreatDoor.D
open Go Go.RowKit
set_option linter.unusedVariables false
set_option linter.unusedSimpArgs false
/-! ### Which blocks change -/
def evFar (o : Obj) : Bool := match o with | .cells _ t _ => t != 37 | _ => true
/-- Only blocks of the call's own have changed, and of those only boxes on a list, and lists of events. -/
structure AddK (ex : List Nat) (B : Nat) (w w' : World) : Prop where
  below : Below B w w'
  far : ∀ (k : Nat) (o : Obj), w.heap[k]? = some o → (k ∈ ex → o.isCells = false) → evFar o = true → w'.heap[k]? = some o
theorem AddK.refl (ex : List Nat) (B : Nat) (w : World) : AddK ex B w w := ⟨Below.refl _ _, fun _ _ h _ _ => h⟩
theorem AddK.trans {ex : List Nat} {B : Nat} {w w1 w' : World} (h : AddK ex B w w1) (k : AddK ex B w1 w') : AddK ex B w w' := ⟨h.below.trans k.below, fun i o hi hn ho => k.far i o (h.far i o hi hn ho) hn ho⟩
theorem AddK.of {ex : List Nat} {B : Nat} {w w' : World} (h : Below w.heap.size w w') (hB : B ≤ w.heap.size) : AddK ex B w w' := ⟨h.mono hB, fun k o hk _ _ => (h.block k (Array.getElem?_eq_some_iff.1 hk).1).trans hk⟩
theorem AddK.size {ex : List Nat} {B : Nat} {w w' : World} (h : AddK ex B w w') : w.heap.size ≤ w'.heap.size := h.below.size
theorem AddK.keeps {ex : List Nat} {B : Nat} {w w' : World} (h : AddK ex B w w') : KeepsOthers w w' := ⟨h.below.size, fun k o hk ho => h.far k o hk (fun _ => ho) (by cases o <;> simp_all [Obj.isCells, evFar])⟩
theorem AddK.blk {ex : List Nat} {B : Nat} {w w' : World} (h : AddK ex B w w') {g : Nat} {t : TypeId} {cs : Array Value} (hb : G.Blk w g t cs) (hg : g ∉ ex) (ht : (t != 37) = true) : G.Blk w' g t cs := h.far g _ hb (fun hh => absurd hh hg) ht
theorem AddK.row {ex : List Nat} {B : Nat} {w : World} {g : Nat} {t : TypeId} {cs : Array Value} (hb : G.Blk w g t cs) (hg : g ∈ ex) (hB : B ≤ g) (ds : Array Value) : AddK ex B w (w.setRow g ds) :=
  ⟨below_setRow (Below.refl _ _) hB _, fun k o hk hn _ => by
    by_cases e : k = g
    · subst e
      have h1 := hn hg
      unfold G.Blk at hb
      rw [hb] at hk
      cases hk
      cases h1
    · exact (setRow_other _ _ _ _ e).trans hk⟩
theorem AddK.cell {ex : List Nat} {B : Nat} {w : World} {g i : Nat} {t : TypeId} {cs : Array Value} (hb : G.Blk w g t cs) (hg : g ∈ ex) (hB : B ≤ g) (u : Value) : AddK ex B w (w.setCell ⟨g, i, none⟩ u) :=
  ⟨(Below.refl _ _).setCell hB u, fun k o hk hn _ => by
    by_cases e : k = g
    · subst e
      have h1 := hn hg
      unfold G.Blk at hb
      rw [hb] at hk
      cases hk
      cases h1
    · exact (Below.heap_setCell w ⟨g, i, none⟩ u k e).trans hk⟩
theorem AddK.app {ex : List Nat} {B : Nat} {w w' : World} {v : Value} {n : Nat} {xs : List Value} (ho : w.ownsRow B 37 12 v n xs) (hg : w.grownBy w' v.ownBlock) (hB : B ≤ w.heap.size) : AddK ex B w w' :=
  ⟨(Below.refl B w).grown hg hB fun q hq => (ho.lt q hq).1, fun k o hk _ hf => by
    refine (hg.block k (Array.getElem?_eq_some_iff.1 hk).1 fun e => ?_).trans hk
    obtain ⟨cs, hc⟩ := G.ownsRow.block_e ho e.symm
    rw [hk] at hc
    cases hc
    simp [evFar] at hf⟩
theorem AddK.mono {ex ex' : List Nat} {B : Nat} {w w' : World} (h : AddK ex B w w') (hs : ∀ k ∈ ex, k ∈ ex') : AddK ex' B w w' := ⟨h.below, fun k o hk hn ho => h.far k o hk (fun hh => hn (hs k hh)) ho⟩
/-- A turn of a block that is no cells, and is newer. -/
theorem AddK.grown {ex : List Nat} {B B2 : Nat} {w A A' : World} {row : Option Nat} (h : AddK ex B w A) (hg : A.grownBy A' row) (hr : ∀ r, row = some r → B2 ≤ r ∧ ∃ o : Obj, A.heap[r]? = some o ∧ o.isCells = false) (h2 : w.heap.size ≤ B2) (hB : B ≤ w.heap.size) : AddK ex B w A' :=
  ⟨h.below.grown hg (Nat.le_trans hB h.below.size) fun k e => Nat.le_trans hB (Nat.le_trans h2 (hr k e).1), fun k o hk hn ho => by
    have h1 := h.far k o hk hn ho
    have hlt := (Array.getElem?_eq_some_iff.1 hk).1
    refine (hg.block k (Nat.lt_of_lt_of_le hlt h.below.size) fun e => ?_).trans h1
    have := (hr k e.symm).1
    omega⟩
/-! ### The state as it is now, the events so far -/
/-- A value's block is none of the boxes behind g5. -/
def Off (g5 : Nat) (v : Value) : Prop := ∀ q, v.ownBlock = some q → q < g5 ∨ g5 + 1 + 1 + 1 < q
theorem Off.of {w : World} {b e sz n g5 : Nat} {v : Value} {xs : List Value} (h : w.ownsRow b e sz v n xs) (hb : g5 + 1 + 1 + 1 < b) : Off g5 v := fun q hq => .inr (by have := (h.lt q hq).1; omega)
structure Now (g4 g5 base : Nat) (a : St × List Ev) (W : World) : Prop where
  ex : ∃ (x : SV) (A : Option Addr) (n c : Nat) (L : List (EV × Ev)), StAt W g4 base x a.1 ∧ G.Blk W g5 30 #[.slice A n c] ∧ OwnEvs W base A n c L ∧ L.map Prod.snd = a.2 ∧
    (∀ i, i < a.1.zones.length → Off g5 (x.rows.getD i undef)) ∧ (∀ i, i < n → Off g5 (.slice (L.getD i zeroP).1.oa (L.getD i zeroP).2.order.length (L.getD i zeroP).1.oc))
  le : base ≤ g5
  lt : g5 + 1 + 1 + 1 < W.heap.size
theorem Now.below {g4 g5 base : Nat} {a : St × List Ev} {W W' : World} (h : Now g4 g5 base a W) (hb : Below W.heap.size W W') : Now g4 g5 base a W' := by
  obtain ⟨x, A, n, c, L, h1, h2, h3, h4⟩ := h.ex
  exact ⟨⟨x, A, n, c, L, h1.below hb, h2.below hb h2.lt, h3.below hb, h4⟩, h.le, Nat.lt_of_lt_of_le h.lt hb.size⟩
theorem OwnEvs.noncell {w w' : World} {row : Option Nat} {base : Nat} {A : Option Addr} {n c : Nat} {L : List (EV × Ev)} (h : OwnEvs w base A n c L) (hg : w.grownBy w' row) (hr : ∀ r, row = some r → ∃ o : Obj, w.heap[r]? = some o ∧ o.isCells = false) : OwnEvs w' base A n c L :=
  ⟨own_noncell h.s hg hr, fun i hi => own_noncell (h.o i hi) hg hr⟩
theorem Now.noncell {g4 g5 base : Nat} {a : St × List Ev} {W W' : World} {row : Option Nat} (h : Now g4 g5 base a W) (hg : W.grownBy W' row) (hr : ∀ r, row = some r → ∃ o : Obj, W.heap[r]? = some o ∧ o.isCells = false) : Now g4 g5 base a W' := by
  obtain ⟨x, A, n, c, L, h1, h2, h3, h4⟩ := h.ex
  exact ⟨⟨x, A, n, c, L, h1.noncell hg hr, blk_noncell h2 hg hr, h3.noncell hg hr, h4⟩, h.le, Nat.lt_of_lt_of_le h.lt hg.size⟩
theorem OwnEvs.only2 {E : TypeId} {B : Nat} {w w' : World} {base : Nat} {A : Option Addr} {n c : Nat} {L : List (EV × Ev)} (h : OwnEvs w base A n c L) (k : G.Only E B w w') (h1 : 37 ≠ E) (h2 : 3 ≠ E) : OwnEvs w' base A n c L :=
  ⟨k.own h.s h1, fun i hi => k.own (h.o i hi) h2⟩
/-- A box of numbers behind g5 is written. -/
theorem Now.cell {g4 g5 base g i : Nat} {a : St × List Ev} {W : World} {cs : Array Value} (u : Value) (h : Now g4 g5 base a W) (hb : G.Blk W g 3 cs) (hg : g5 ≤ g ∧ g ≤ g5 + 1 + 1 + 1) : Now g4 g5 base a (W.setCell ⟨g, i, none⟩ u) := by
  obtain ⟨x, A, n, c, L, k1, k2, k3, k4, k5, k6⟩ := h.ex
  have hO : G.Only 3 0 W (W.setCell ⟨g, i, none⟩ u) := only_put hb _
  have hst : ∀ {b e sz n v} {xs : List Value}, W.ownsRow b e sz v n xs → Off g5 v → (W.setCell ⟨g, i, none⟩ u).ownsRow b e sz v n xs := fun {b e sz n v xs} ho hf => by
    refine ho.kept (row := some g) ⟨rfl, rfl, rfl, by simp, fun k hk hne => Below.heap_setCell W ⟨g, i, none⟩ u k (fun e => hne (by rw [e]))⟩ ?_
    cases hv : v.ownBlock with
    | none => exact .inl rfl
    | some q => exact .inr fun hh => absurd (Option.some.inj hh) (fun h2 : q = g => by have h1 := hf q hv; omega)
  exact ⟨⟨x, A, n, c, L, ⟨hO.blk k1.blk (by decide), ⟨hO.own k1.own.p (by decide), hO.own k1.own.c (by decide), hO.own k1.own.z (by decide), fun i hi => hst (k1.own.rows i hi) (k5 i hi), k1.own.apart⟩, k1.ge⟩, hO.blk k2 (by decide), ⟨hO.own k3.s (by decide), fun i hi => hst (k3.o i hi) (k6 i hi)⟩, k4, k5, k6⟩, h.le, by simpa using h.lt⟩
theorem OwnSt.grownE2 {w w' : World} {base b2 : Nat} {x : SV} {s : St} {v : Value} {n : Nat} {xs : List Value} (h : OwnSt w base x s) (h2 : w.ownsRow b2 37 12 v n xs) (hg : w.grownBy w' v.ownBlock) : OwnSt w' base x s :=
  ⟨own_far h.p h2 hg (by decide), own_far h.c h2 hg (by decide), own_far h.z h2 hg (by decide), fun i hi => own_far (h.rows i hi) h2 hg (by decide), h.apart⟩
/-- An event is done, and laid behind the others. -/
theorem now_step {g4 g5 base n c b8 : Nat} {wr wA wB wE : World} {a : St × List Ev} {x x' : SV} {u : St} {A : Option Addr} {L : List (EV × Ev)} {y : EV} {e : Ev} {v : Value} {ce : Array Value}
    (hst : StAt wr g4 base x a.1) (hbx : G.Blk wr g5 30 #[.slice A n c]) (how : OwnEvs wr base A n c L) (hL : L.map Prod.snd = a.2) (ho1 : ∀ i, i < a.1.zones.length → Off g5 (x.rows.getD i undef)) (ho2 : ∀ i, i < n → Off g5 (.slice (L.getD i zeroP).1.oa (L.getD i zeroP).2.order.length (L.getD i zeroP).1.oc)) (hle : base ≤ g5) (hlt : g5 + 1 + 1 + 1 < wr.heap.size)
    (hA : Below wr.heap.size wr wA) (hB : Below wA.heap.size wA wB) (hx : OwnSt wB wA.heap.size x' u) (hs : stepE a.1 e false = some u) (he : OwnEv wr b8 y e) (hb8 : g5 + 1 + 1 + 1 < b8) (hce : ce = y.arr e)
    (hr : wE.ownsRow base 37 12 v (n + 1) (flatE L ++ ce.toList)) (hg : ((wB.setRow g4 (x'.arr u)).alloc (.cells ce 37)).grownBy wE (Value.slice A n c).ownBlock) :
    Now g4 g5 base (doneE a e) (wE.setCell ⟨g5, 0, none⟩ v) ∧ AddK [g4, g5] base wr (wE.setCell ⟨g5, 0, none⟩ v) := by
  subst hce
  have hbw : base ≤ wr.heap.size := Nat.le_trans hle (Nat.le_of_lt hbx.lt)
  have hAB : Below wr.heap.size wr wB := G.bl_trans hA hB
  have hkB := hst.blk.below hAB hst.blk.lt
  have hcB := hbx.below hAB hbx.lt
  have hbB := how.below hAB
  have heB := G.own_below he hAB
  have hO : G.Only 27 0 wB (wB.setRow g4 (x'.arr u)) := only_row hkB
  have hzC : (wB.setRow g4 (x'.arr u)).heap.size = wB.heap.size := by
    have h1 := (below_setRow (Below.refl 0 wB) (Nat.zero_le g4) (x'.arr u)).size
    refine Nat.le_antisymm ?_ h1
    simp [World.setRow]
  have hkC : G.Blk (wB.setRow g4 (x'.arr u)) g4 27 (x'.arr u) := setRow_heap _ _ _ _ _ _ hkB
  have hcC := hO.blk hcB (by decide)
  have hbC := hbB.only2 hO (by decide) (by decide)
  have heC := hO.own heB (by decide)
  have hsC := (hx.ge (Nat.le_trans hbw hA.size)).only hO (by decide) (by decide) (by decide) (by decide)
  have hD : Below (wB.setRow g4 (x'.arr u)).heap.size (wB.setRow g4 (x'.arr u)) ((wB.setRow g4 (x'.arr u)).alloc (.cells (y.arr e) 37)) := G.bl_alloc (Below.refl _ _) _
  generalize hwD : (wB.setRow g4 (x'.arr u)).alloc (.cells (y.arr e) 37) = wD at *
  have hkD := hkC.below hD hkC.lt
  have hcD := hcC.below hD hcC.lt
  have hbD := hbC.below hD
  have heD := G.own_below heC hD
  have hsD := hsC.below hD
  have hkE := blk_far hkD hbD.s hg (by decide)
  have hcE := blk_far hcD hbD.s hg (by decide)
  have hsE := hsD.grownE2 hbD.s hg
  obtain ⟨A', c', rfl⟩ := G.own_shape hr
  have hlE := hbD.snoc (G.own_ge heD (by omega)) hr hg
  have hO2 : G.Only 30 0 wE (wE.setCell ⟨g5, 0, none⟩ (.slice A' (n + 1) c')) := only_put hcE _
  have hp := hcE.put 0 (.slice A' (n + 1) c')
  have hd1 : doneE a e = (u, a.2 ++ [e]) := by
    show ((stepE a.1 e false).getD zeroSt, a.2 ++ [e]) = _
    rw [hs]
    rfl
  have hbD2 : base ≤ wD.heap.size := Nat.le_trans hbw (Nat.le_trans hAB.size (by rw [← hzC]; exact hD.size))
  refine ⟨⟨⟨x', A', n + 1, c', L ++ [(y, e)], ?_, hp, hlE.only2 hO2 (by decide) (by decide), ?_, ?_, ?_⟩, hle, ?_⟩, ?_⟩
  · rw [hd1]
    exact ⟨hO2.blk hkE (by decide), hsE.only hO2 (by decide) (by decide) (by decide) (by decide), hst.ge⟩
  · rw [hd1, List.map_append, hL]
    rfl
  · rw [hd1]
    exact fun i hi => Off.of (hx.rows i hi) (Nat.lt_of_lt_of_le hlt hA.size)
  · intro i hi
    have hl := ownEvs_len how
    by_cases hi2 : i < n
    · have e2 : (L ++ [(y, e)]).getD i zeroP = L.getD i zeroP := by
        rw [List.getD_eq_getElem?_getD, List.getElem?_append_left (by omega), List.getD_eq_getElem?_getD]
      rw [e2]
      exact ho2 i hi2
    · obtain rfl : i = n := by omega
      have e2 : (L ++ [(y, e)]).getD i zeroP = (y, e) := by
        rw [List.getD_eq_getElem?_getD, List.getElem?_append_right (by omega), hl]
        simp
      rw [e2]
      exact Off.of he hb8
  · have h1 := hD.size
    have h2 := hg.size
    have h3 := hA.size
    have h4 := hB.size
    rw [hzC] at h1
    have h5 : (wE.setCell ⟨g5, 0, none⟩ (.slice A' (n + 1) c')).heap.size = wE.heap.size := by simp
    omega
  · refine (((AddK.of hAB hbw).trans (AddK.row hkB (by simp) hst.ge (x'.arr u))).trans ?_).trans (((AddK.app hbD.s hg hbD2)).trans (AddK.cell hcE (by simp) hle _))
    exact AddK.of hD (by rw [hzC]; exact Nat.le_trans hbw hAB.size)
end Go.Proofs.YtmhklnjmeoeanaaGreatDoor.D
namespace Go.Proofs.YtmhklnjmeoeanaaGreatDoor.D
open Go Go.RowKit
set_option linter.unusedVariables false
set_option linter.unusedSimpArgs false
/-- What it comes to: nothing, or one event that fits. -/
def AddPost (g4 g5 base : Nat) (a : St × List Ev) (es : List Ev) (w : World) (e : Ending) (w' : World) : Prop := ∃ v, e = .returned v ∧ Now g4 g5 base (doEs a es) w' ∧ AddK [g4, g5] base w w'
/-- The loop: nothing yet, or the one event. -/
def AddI (g4 g5 base : Nat) (a : St × List Ev) (es : List Ev) (w : World) (k : Nat) (wr : World) : Prop := (k = 0 ∧ wr = w) ∨ (k = 1 ∧ Now g4 g5 base (doEs a es) wr ∧ AddK [g4, g5] base w wr)
set_option maxRecDepth 100000 in
set_option maxHeartbeats 8000000 in
theorem add_any (g4 g5 base : Nat) (a : St × List Ev) (A : Option Addr) (n c b8 : Nat) (er : Int) (L : List (EV × Ev)) (w : World) (hN : Now g4 g5 base a w) (hm : May a.1) (hl : OwnEvs w b8 A n c L) (hb8 : g5 + 1 + 1 + 1 < b8) (h1 : n ≤ 1)
    (hf : ∀ e ∈ L.map Prod.snd, e.Fits ∧ e.order.length ≤ 33554432 ∧ ∃ u, stepE a.1 e false = some u) (hlen : a.2.length ≤ 33554432) :
    Calls Tryz.prog 74 #[.slice A n c, .int .i64 er, .pointer (some ⟨g4, 0, none⟩), .pointer (some ⟨g5, 0, none⟩)] w (AddPost g4 g5 base a (L.map Prod.snd) w) := by
  obtain ⟨iE, hiE, hzE0, hzE1, hzE2⟩ := info_parts infoEv
  have HIE := Lib.hid (And.intro hiE (And.intro hzE0 (And.intro hzE1 hzE2)))
  obtain ⟨fsS, hfsS⟩ := undSt
  have HFS := Lib.hid hfsS
  obtain ⟨fsE, hfsE⟩ := undEv
  have HFE := Lib.hid hfsE
  have HN := Lib.hid hN
  have HM := Lib.hid hm
  have HL := Lib.hid hl
  have HB8 := Lib.hid hb8
  have HF := Lib.hid hf
  have HLN := Lib.hid hlen
  have hll := ownEvs_len hl
  obtain ⟨hn0, hn1⟩ | ⟨y, e, hn0, hn1⟩ : (n = 0 ∧ L = []) ∨ ∃ y e, n = 1 ∧ L = [(y, e)] := by
    cases L with
    | nil => exact .inl ⟨by simpa using hll.symm, rfl⟩
    | cons p L =>
      cases L with
      | nil => exact .inr ⟨p.1, p.2, by simpa using hll.symm, rfl⟩
      | cons q L => simp at hll; omega
  · subst hn0 hn1
    clear hiE hzE0 hzE1 hzE2 hfsS hfsE hN hm hl hb8 hf hlen hll h1
    go_enter Tryz.func74, Tryz.ntmps74
    go_wp2_with fail
    go_loopw [10] (fun i wr => i = .int .i64 0 ∧ wr = w) (fun i _ => 0)
    case atStart => exact ⟨rfl, rfl⟩
    case round =>
      obtain ⟨rfl, rfl⟩ := hrel
      go_wp2_with fail
      refine bodyPost_ret (results_none rfl _ _ _) rfl ?_
      exact ⟨_, rfl, HN.out, AddK.refl _ _ _⟩
  · subst hn0 hn1
    have HOE := Lib.hid (show OwnEv w b8 y e from hl.o 0 (by omega))
    obtain ⟨b, off, hA, hbs, hrd, hre, _⟩ := ev_whole (k := 0) hl.rd (by omega)
    obtain ⟨hfit, hol, u, hu⟩ := hf e (by simp)
    have HU := Lib.hid hu
    have HAP := Lib.hid (fun (x : SV) (W : World) (hx : RdSt W x a.1) (hW : RdEv W y e) => apply_any x a.1 y e W hx (may_sz hm) hW hfit hol)
    rw [show ([(y, e)] : List (EV × Ev)).getD 0 zeroP = (y, e) from rfl] at hrd
    obtain ⟨ce, hce⟩ : ∃ ce, ce = y.arr e := ⟨_, rfl⟩
    rw [show y.val e = .agg ce by rw [hce]; rfl] at HAP
    change (loadVar 37 ⟨b, off + 0 * 12, none⟩).run Tryz.prog w = .ok (.agg (y.arr e)) w at hrd
    rw [← hce] at hrd
    have HRD := Lib.hid hrd
    have HCE := Lib.hid hce
    have HSE := Lib.hid (show ce.size = 12 by rw [hce]; rfl)
    have HON := Lib.hid (show ce.all (·.oneCell') = true by rw [hce]; simp [EV.arr, Value.oneCell'])
    have HRE := Lib.hid hre
    subst hA
    clear hiE hzE0 hzE1 hzE2 hfsS hfsE hN hm hl hb8 hf hlen hll h1 hrd hre hfit hol hu hce
    go_enter Tryz.func74, Tryz.ntmps74
    go_wp2_with fail
    go_loopw [10] (fun i wr => ∃ k : Nat, i = .int .i64 k ∧ AddI g4 g5 base a [e] w k wr) (fun i _ => 1 - (intOf i).toNat)
    case atStart => exact ⟨0, rfl, .inl ⟨rfl, rfl⟩⟩
    case round =>
      obtain ⟨k, rfl, hri⟩ := hrel
      rcases hri with ⟨rfl, rfl⟩ | ⟨rfl, hri⟩
      · obtain ⟨⟨x, A', n', c', L', hst, hbx, how, hLm, hof1, hof2⟩, hle, hlt⟩ := HN.out
        have HOF1 := Lib.hid hof1
        have HOF2 := Lib.hid hof2
        have HLT := Lib.hid hlt
        have HST := Lib.hid hst
        have HBX := Lib.hid hbx
        have HOW := Lib.hid how
        have HLM := Lib.hid hLm
        have HLE := Lib.hid hle
        have hn' : n' ≤ 33554432 := by
          have h1 := ownEvs_len how
          have h2 := congrArg List.length hLm
          rw [List.length_map] at h2
          have h3 := HLN.out
          omega
        clear hst hbx how hLm hle hof1 hof2 hlt
        go_upto_region 3 with (first | (refine wpList_load_run (by rfl) 37 _ rfl b (off + 0 * 12) rfl ce HRD.out ?_) | (refine wpList_store_row rfl 37 _ _ rfl _ ce rfl rfl 37 _ (heap_alloc_new _ _) (by rw [HSE.out]; exact sizeEv) (by rw [HSE.out]; rfl) HON.out ?_))
        generalize hwA : World.setRow _ _ _ = wA
        have hqA : Below wr.heap.size wr wA := by rw [← hwA]; exact below_setRow (G.bl_alloc (Below.refl _ _) _) (Nat.le_refl _) _
        have hrA : G.Blk wA wr.heap.size 37 ce := by rw [← hwA]; exact setRow_heap _ _ _ _ _ _ (heap_alloc_new _ _)
        have HQA := Lib.hid hqA
        have HRA := Lib.hid hrA
        have HSTA := Lib.hid (HST.out.below hqA)
        obtain ⟨cx, hcx⟩ : ∃ q, q = x.arr a.1 := ⟨_, rfl⟩
        have HSX := Lib.hid (show cx.size = 7 by rw [hcx]; rfl)
        have HKA := Lib.hid (show G.Blk wA g4 27 cx by rw [hcx]; exact HSTA.out.blk)
        have HAPA := Lib.hid (HAP.out x wA HSTA.out.own.rd (RdEv.below HRE.out hqA))
        rw [show x.val a.1 = .agg cx by rw [hcx]; rfl] at HAPA
        generalize hgE : wr.heap.size = gE at hqA hrA HRA ⊢
        have hlE : gE < wA.heap.size := hrA.lt
        clear hwA hqA hrA hcx
        go_upto_region 4 with (first | (refine wpList_load_row rfl 27 _ rfl g4 rfl _ cx (0, 0) _ HKA.out HFS.out rfl (by rw [HSX.out]; exact sizeSt) ?_) | (refine wpList_load_row rfl 37 _ rfl gE rfl _ ce (0, 0) _ HRA.out HFE.out rfl (by rw [HSE.out]; exact sizeEv) ?_) | ((with_reducible refine (HAPA.out).mono ?_); rintro e3 wB hp3; obtain ⟨x', t, k, rfl, ho3, hb3, hc3⟩ := hp3; have HO3 := Lib.hid ho3; have HB3 := Lib.hid hb3; have HC3 := Lib.hid hc3; clear ho3 hb3 hc3; obtain ⟨cy, hcy⟩ : ∃ q, q = x'.arr t := ⟨_, rfl⟩; rw [show x'.val t = .agg cy by rw [hcy]; rfl]; have HCY := Lib.hid hcy; have HSY := Lib.hid (show cy.size = 7 by rw [hcy]; rfl); have HAY := Lib.hid (show cy.all (·.oneCell') = true by rw [hcy]; exact arr_one _ _); clear hcy) | (refine wpList_store_row rfl 27 _ _ rfl g4 cy rfl rfl 27 _ (HKA.out.below HB3.out HKA.out.lt) (by rw [HSY.out]; exact sizeSt) (by rw [HSY.out, HSX.out]) HAY.out ?_))
        obtain ⟨rfl, rfl⟩ : u = t ∧ k = 0 := by
          rcases HC3.out with ⟨h1, _, h2⟩ | ⟨_, _, h2, _⟩ | ⟨_, h2, _⟩
          · exact ⟨Option.some.inj (HU.out.symm.trans h2), h1⟩
          · rw [HU.out] at h2
            cases h2
          · exact absurd HM.out h2
        have HKB := Lib.hid (HKA.out.below HB3.out HKA.out.lt)
        have hAB := HQA.out
        have HXB := Lib.hid (HBX.out.below (G.bl_trans HQA.out HB3.out) HBX.out.lt)
        have hO : G.Only 27 0 wB (wB.setRow g4 cy) := only_row HKB.out
        have hbC := hO.blk HXB.out (by decide)
        have HBC := Lib.hid hbC
        have c5 := hbC.cell 0
        have l5 := hbC.lt
        have HRC := Lib.hid (hO.blk (HRA.out.below HB3.out HRA.out.lt) (by decide))
        have HOWC := Lib.hid (((HOW.out.below HQA.out).below HB3.out).only2 hO (by decide) (by decide))
        have hsz : base ≤ (wB.setRow g4 cy).heap.size := by
          have h1 := (HBX.out.lt)
          have h2 := HQA.out.size
          have h3 := HB3.out.size
          have h4 := hO.below.size
          have h5 := HLE.out
          omega
        obtain ⟨wC, hwC⟩ : ∃ q, q = wB.setRow g4 cy := ⟨_, rfl⟩
        have HWC := Lib.hid hwC
        rw [← hwC] at HRC HOWC HBC hsz c5 l5 ⊢
        clear hO hAB hbC hwC
        go_upto_region 5 with (first | (refine wpList_load_row rfl 37 _ rfl gE rfl _ ce (0, 0) _ HRC.out HFE.out rfl (by rw [HSE.out]; exact sizeEv) ?_) | (refine wpList_buildOne rfl 30 37 (.tmp 21) rfl ce rfl iE (.agg zeroE) Tryz.underlying30 HIE.out.1 HIE.out.2.1 (by rw [HIE.out.2.2.1]; decide) (by rw [HIE.out.2.2.1]; decide) (fill_evs HCE.out HIE.out.2.2.1) ?_) | (at_builtin; refine wpList_append_own _ rfl (.tmp 20) (.tmp 22) 30 rfl base 37 iE (.agg zeroE) 12 96 Tryz.underlying30 HIE.out.1 HIE.out.2.1 HIE.out.2.2.1 HIE.out.2.2.2 rfl (by decide) _ n' (flatE L') rfl (HOWC.out.s.alloc _) ⟨wC.heap.size, 0, none⟩ 1 1 ce.toList rfl (by rw [HCE.out]; rfl) (G.cells_new _ _ _ _ rfl) (by rw [HCE.out]; simp [EV.arr, Value.oneCell']) (by unfold maxLen; omega) (by omega) (by have := hsz; simp; omega) ?_; intro v3 wE hown3 hg3 _q; obtain ⟨A3, c3, rfl⟩ := G.own_shape hown3; have HOWN3 := Lib.hid hown3; have HG3 := Lib.hid hg3; have hkE : G.Blk wE g5 30 #[.slice A' n' c'] := blk_far (HBC.out.below (G.bl_alloc (Below.refl _ _) _) HBC.out.lt) (HOWC.out.s.alloc _) hg3 (by decide); have cE := hkE.cell 0; have fE := hkE.frozen 0; have HKE := Lib.hid hkE; clear hown3 hg3 hkE))
        have hfin := now_step HST.out HBX.out HOW.out HLM.out HOF1.out HOF2.out HLE.out HLT.out HQA.out HB3.out (by have h1 := HO3.out; exact h1) HU.out HOE.out HB8.out HCE.out HOWN3.out (by have h1 := HG3.out; rw [HWC.out, HCY.out] at h1; exact h1)
        have HFIN := Lib.hid hfin
        clear hfin
        go_wp2_with fail
        go_roundw
        case rel => exact ⟨1, rfl, .inr ⟨rfl, HFIN.out⟩⟩
        case measure => (simp [intOf]; try omega)
      · have HRI := Lib.hid hri
        clear hri
        go_wp2_with fail
        refine bodyPost_ret (results_none rfl _ _ _) rfl ?_
        exact ⟨_, rfl, HRI.out⟩
end Go.Proofs.YtmhklnjmeoeanaaGreatDoor.D

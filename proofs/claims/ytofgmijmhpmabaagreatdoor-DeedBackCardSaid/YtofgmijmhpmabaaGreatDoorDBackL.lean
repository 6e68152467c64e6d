/- What the walk of DeedBack keeps: the state as it is now in a box, the trace so far. -/
import Derived.Test.YtofgmijmhpmabaaGreatDoorDBackW
import Derived.Test.YtofgmijmhpmabaaGreatDoorDCopyEvs
import Derived.Test.YtofgmijmhpmabaaGreatDoorDOpenL
import Derived.Test.YtofgmijmhpmabaaGreatDoorDLawS
import Derived.Test.YtofgmijmhpmabaaGreatDoorDLives
import Derived.Test.YtofgmijmhpmabaaGreatDoorDSame
import Derived.Test.YtofgmijmhpmabaaGreatDoorBag
namespace Go.Proofs.YtofgmijmhpmabaaGreatDoor.D
open Go Go.RowKit
set_option linter.unusedVariables false
set_option linter.unusedSimpArgs false
theorem do_whole {w : World} {A : Option Addr} {n : Nat} {L : List (EV × Dq)} (h : G.RdS w A 7 n (flatD L)) {k : Nat} (hk : k < n) :
    ∃ b off, A = some ⟨b, off, none⟩ ∧ b < w.heap.size ∧ (loadVar 80 ⟨b, off + k * 7, none⟩).run Tryz.prog w = .ok (.agg (dqArr (L.getD k zeroQ).1 (L.getD k zeroQ).2)) w := by
  obtain ⟨b, off, e, hr⟩ := h.2 (by omega)
  have hl : L.length = n := by
    have := h.1
    rw [flatD_length] at this
    omega
  have hc : ∀ j v, (dqArr (L.getD k zeroQ).1 (L.getD k zeroQ).2)[j]? = some v → w.cell? ⟨b, off + k * 7 + j, none⟩ = some v := fun j v hv => by
    have hj : j < 7 := (Array.getElem?_eq_some_iff.1 hv).1
    have h1 := hr.2 (k * 7 + j) (by rw [flatD_length]; omega)
    have h2 : (flatD L).getD (k * 7 + j) undef = (cellsDq (L.getD k zeroQ)).getD j undef := G.flat_getD cellsDq 7 (fun _ => rfl) zeroQ L k j (by omega) hj
    rw [h2] at h1
    rw [Nat.add_assoc, h1, List.getD_eq_getElem?_getD]
    unfold cellsDq
    rw [Array.getElem?_toList, hv]
    rfl
  obtain ⟨fs, hfs⟩ := undDo
  exact ⟨b, off, e, hr.1, run_loadVar_at w b _ _ _ _ hc hfs rfl sizeDo⟩
/-- What a call of Apply leaves in its box. -/
def CallOwn (B : World) (s : St) (o : Option St) (sp sk : Value) (wx : World) : Prop :=
  ∃ (g : Nat) (x : SV) (t : St) (k : Int), sp = .pointer (some ⟨g, 0, none⟩) ∧ sk = .int .i64 k ∧ G.Blk wx g 27 (x.arr t) ∧ OwnSt wx B.heap.size x t ∧ Below B.heap.size B wx ∧ B.heap.size ≤ g ∧
    ((k = 0 ∧ May s ∧ o = some t) ∨ (k = 11 ∧ May s ∧ o = none ∧ t = zeroSt) ∨ (k = 10 ∧ ¬ May s ∧ t = zeroSt))
theorem callOwn_mk {B wA : World} {s : St} {o : Option St} {g : Nat} {x : SV} {t : St} {k : Int} {zs : Array Value} (ho : OwnSt wA B.heap.size x t) (hb : Below B.heap.size B (wA.setRow g (x.arr t))) (hB : G.Blk wA g 27 zs) (hg : B.heap.size ≤ g)
    (hc : (k = 0 ∧ May s ∧ o = some t) ∨ (k = 11 ∧ May s ∧ o = none ∧ t = zeroSt ∧ x = zeroSV) ∨ (k = 10 ∧ ¬ May s ∧ t = zeroSt ∧ x = zeroSV)) : CallOwn B s o (.pointer (some ⟨g, 0, none⟩)) (.int .i64 k) (wA.setRow g (x.arr t)) :=
  ⟨g, x, t, k, rfl, rfl, setRow_heap _ _ _ _ _ _ hB, ho.only (only_row hB) (by decide) (by decide) (by decide) (by decide), hb, hg, hc.imp id (fun h => h.imp (fun ⟨a, b, c, d, _⟩ => ⟨a, b, c, d⟩) (fun ⟨a, b, c, _⟩ => ⟨a, b, c⟩))⟩
theorem rep_yes2 {s t u : St} {o : Option St} {fa : Nat} {a k : Int} {x' : SV} (hm : May s) (ho : o = some u) (h : (k = 0 ∧ May s ∧ o = some t ∧ a = 0) ∨ (k = 11 ∧ May s ∧ o = none ∧ a = fa ∧ t = zeroSt ∧ x' = zeroSV) ∨ (k = 10 ∧ ¬ May s ∧ a = 0 ∧ t = zeroSt ∧ x' = zeroSV)) : k = 0 ∧ u = t ∧ a = 0 := by
  rcases h with ⟨a, _, b, c⟩ | ⟨_, _, b, _⟩ | ⟨_, b, _⟩
  · exact ⟨a, Option.some.inj (ho.symm.trans b), c⟩
  · rw [ho] at b
    cases b
  · exact absurd hm b
theorem mem_getD2 {α : Type} {l : List α} {d : α} {i : Nat} (h : i < l.length) : l.getD i d ∈ l := by
  rw [List.getD_eq_getElem?_getD, List.getElem?_eq_getElem h]
  exact List.getElem_mem h
def zeroDo : Array Value := #[.int .i64 0, .int .i64 0, .int .i64 0, .bool false, .int .i8 0, .int .i64 0, .slice none 0 0]
/-- The loops' relation. -/
structure BkL (s : St) (w0 : World) (g5 : Nat) (E : List Ev) (tr : Value) (wr : World) : Prop where
  ex : ∃ (A : Option Addr) (c n : Nat) (L : List (EV × Ev)) (t : St) (x' : SV), tr = .slice A n c ∧ OwnEvs wr w0.heap.size A n c L ∧ L.map Prod.snd = E ∧ runE s E = some t ∧ G.Blk wr g5 27 (x'.arr t) ∧ OwnSt wr w0.heap.size x' t
  fit : ∀ e ∈ E, e.Fits ∧ e.order.length ≤ 33554432
  bl : Below w0.heap.size w0 wr
theorem BkL.below {s : St} {w0 : World} {g5 : Nat} {E : List Ev} {tr : Value} {wr w' : World} (h : BkL s w0 g5 E tr wr) (hb : Below wr.heap.size wr w') : BkL s w0 g5 E tr w' := by
  obtain ⟨A, c, n, L, t, x', h1, h2, h3, h4, h5, h6⟩ := h.ex
  exact ⟨⟨A, c, n, L, t, x', h1, h2.below hb, h3, h4, h5.below hb h5.lt, h6.below hb⟩, h.fit, G.bl_trans h.bl hb⟩
/-- What the inner loop keeps: nothing has been done yet, or the one event has. -/
def InJ (s : St) (w2 : World) (g5 : Nat) (E : List Ev) (wq : World) (tr0 : Value) (j : Nat) (tr : Value) (wr : World) : Prop := (j = 0 ∧ wq = wr ∧ tr0 = tr) ∨ (j = 1 ∧ ∃ e9 : Ev, BkL s w2 g5 (E ++ [e9]) tr wr)
theorem InJ.fin {s : St} {w2 : World} {g5 : Nat} {E : List Ev} {wq : World} {tr0 : Value} {j k : Nat} {tr : Value} {wr : World} (h : InJ s w2 g5 E wq tr0 j tr wr) (hI : BkL s w2 g5 E tr0 wq) (hE : E.length ≤ k) : ∃ E' : List Ev, E'.length ≤ k + 1 ∧ BkL s w2 g5 E' tr wr := by
  rcases h with ⟨_, rfl, rfl⟩ | ⟨_, e9, h⟩
  · exact ⟨E, by omega, hI⟩
  · exact ⟨E ++ [e9], by simp; omega, h⟩
theorem run_snoc {s t u : St} {E : List Ev} {e : Ev} (h : runE s E = some t) (hs : stepE t e false = some u) : runE s (E ++ [e]) = some u := by
  rw [run_app h]
  unfold runE
  rw [hs]
  rfl
theorem OwnSt.grownE {w w' : World} {base b2 : Nat} {x : SV} {s : St} {v : Value} {n : Nat} {xs : List Value} (h : OwnSt w base x s) (h2 : w.ownsRow b2 30 12 v n xs) (hg : w.grownBy w' v.ownBlock) : OwnSt w' base x s :=
  ⟨own_far h.p h2 hg (by decide), own_far h.c h2 hg (by decide), own_far h.z h2 hg (by decide), fun i hi => own_far (h.rows i hi) h2 hg (by decide), h.apart⟩
theorem OwnEvs.only {E : TypeId} {B : Nat} {w w' : World} {base : Nat} {A : Option Addr} {n c : Nat} {L : List (EV × Ev)} (h : OwnEvs w base A n c L) (k : G.Only E B w w') (h1 : 30 ≠ E) (h2 : 3 ≠ E) : OwnEvs w' base A n c L :=
  ⟨k.own h.s h1, fun i hi => k.own (h.o i hi) h2⟩
/-- An event is done, and laid behind the trace. -/
theorem BkL.next {s t u : St} {w0 wr wc w2 : World} {g5 n c : Nat} {A : Option Addr} {E : List Ev} {L : List (EV × Ev)} {x' x7 : SV} {y9 : EV} {e9 : Ev} {v : Value} {ce : Array Value} {b8 : Nat}
    (how : OwnEvs wr w0.heap.size A n c L) (hL : L.map Prod.snd = E) (hrun : runE s E = some t) (hk5 : G.Blk wr g5 27 (x'.arr t)) (hfit : ∀ e ∈ E, e.Fits ∧ e.order.length ≤ 33554432) (hbl : Below w0.heap.size w0 wr) (hg5 : w0.heap.size ≤ g5)
    (hb : Below wr.heap.size wr wc) (hx7 : OwnSt wc wr.heap.size x7 u) (hst : stepE t e9 false = some u) (he9 : OwnEv wr b8 y9 e9) (hb8 : w0.heap.size ≤ b8) (hf9 : e9.Fits ∧ e9.order.length ≤ 33554432) (hce : ce = y9.arr e9)
    (hr : w2.ownsRow w0.heap.size 30 12 v (n + 1) (flatE L ++ ce.toList)) (hg : ((wc.setRow g5 (x7.arr u)).alloc (.cells ce 30)).grownBy w2 (Value.slice A n c).ownBlock) : BkL s w0 g5 (E ++ [e9]) v w2 := by
  subst hce
  obtain ⟨A', c', rfl⟩ := G.own_shape hr
  have hkc := hk5.below hb hk5.lt
  have ho : G.Only 27 0 wc (wc.setRow g5 (x7.arr u)) := only_row hkc
  have hba : Below (wc.setRow g5 (x7.arr u)).heap.size (wc.setRow g5 (x7.arr u)) ((wc.setRow g5 (x7.arr u)).alloc (.cells (y9.arr e9) 30)) := G.bl_alloc (Below.refl _ _) _
  have h1 := ((how.below hb).only ho (by decide) (by decide)).below hba
  have h2 : OwnEv ((wc.setRow g5 (x7.arr u)).alloc (.cells (y9.arr e9) 30)) w0.heap.size y9 e9 := G.own_ge (G.own_below (ho.own (G.own_below he9 hb) (by decide)) hba) hb8
  have h3 : G.Blk (wc.setRow g5 (x7.arr u)) g5 27 (x7.arr u) := setRow_heap _ _ _ _ _ _ hkc
  have h4 := h3.below hba h3.lt
  have h5 := ((hx7.ge hbl.size).only ho (by decide) (by decide) (by decide) (by decide)).below hba
  refine ⟨⟨A', c', n + 1, L ++ [(y9, e9)], u, x7, rfl, h1.snoc h2 hr hg, by rw [List.map_append, hL]; rfl, run_snoc hrun hst, blk_far h4 h1.s hg (by decide), h5.grownE h1.s hg⟩, fun e he => ?_, ?_⟩
  · rcases List.mem_append.1 he with h | h
    · exact hfit e h
    · rw [List.mem_singleton.1 h]
      exact hf9
  · exact (G.bl_alloc (below_setRow (G.bl_trans hbl hb) hg5 _) _).grown hg (by have := hbl.size; have := hb.size; have := (below_setRow (cs := x7.arr u) (Below.refl 0 wc) (Nat.zero_le g5)).size; simp; omega) fun q hq => (h1.s.lt q hq).1
end Go.Proofs.YtofgmijmhpmabaaGreatDoor.D

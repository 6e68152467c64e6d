/- States, events in memory: how their values read, what a call owns. -/
import Derived.Test.YtofgmijmhpmabaaGreatDoorDBase
import Derived.Test.YtofgmijmhpmabaaGreatDoorMarks
import Derived.Test.YtofgmijmhpmabaaGreatDoorOpenS
import Derived.Test.YtofgmijmhpmabaaGreatDoorStores
import Derived.Test.YtofgmijmhpmabaaGreatDoorProg
namespace Go.Proofs.YtofgmijmhpmabaaGreatDoor.D
open Go Go.RowKit
set_option linter.unusedVariables false
set_option linter.unusedSimpArgs false
theorem ret_bool {a b : Bool} (h : a = b) : Ending.returned (.bool a) = .returned (.bool b) := by rw [h]
theorem flatP_len (l : List Pl) : (flatP l).length = l.length * 3 := G.flat_len Pl.cells 3 (fun _ => rfl) l
theorem pl_at {w : World} {b off k : Nat} {l : List Pl} {x : Pl} (h : G.RdV w b off (flatP l)) (hk : k < l.length) (hx : l.getD k zeroPl = x) :
    w.cell? ⟨b, off + k * 3, none⟩ = some (.int .i32 x.life) ∧ w.cell? ⟨b, off + k * 3 + 1, none⟩ = some (.int .i32 x.energy) ∧ w.cell? ⟨b, off + k * 3 + 2, none⟩ = some (.bool x.out) := by
  have key : ∀ j, j < 3 → w.cell? ⟨b, off + k * 3 + j, none⟩ = some (x.cells.getD j undef) := fun j hj => by
    have h1 := h.2 (k * 3 + j) (by rw [flatP_len]; omega)
    have h2 : (flatP l).getD (k * 3 + j) undef = (Pl.cells (l.getD k zeroPl)).getD j undef := G.flat_getD Pl.cells 3 (fun _ => rfl) zeroPl l k j hk hj
    rw [h2, hx] at h1
    rw [Nat.add_assoc]
    exact h1
  exact ⟨key 0 (by omega), key 1 (by omega), key 2 (by omega)⟩
theorem cd_at {w : World} {b off k : Nat} {l : List Cd} {x : Cd} (h : G.RdV w b off (flatC l)) (hk : k < l.length) (hx : l.getD k zeroCd = x) :
    w.cell? ⟨b, off + k * 6, none⟩ = some (.int .i64 x.kind) ∧ w.cell? ⟨b, off + k * 6 + 1, none⟩ = some (.int .i64 x.owner) ∧ w.cell? ⟨b, off + k * 6 + 2, none⟩ = some (.int .i32 x.power) ∧ w.cell? ⟨b, off + k * 6 + 3, none⟩ = some (.int .i32 x.health) ∧
      w.cell? ⟨b, off + k * 6 + 4, none⟩ = some (.int .i32 x.damage) ∧ w.cell? ⟨b, off + k * 6 + 5, none⟩ = some (.int .i32 x.marks) := by
  have key : ∀ j, j < 6 → w.cell? ⟨b, off + k * 6 + j, none⟩ = some (x.cells.getD j undef) := fun j hj => by
    have h1 := h.2 (k * 6 + j) (by rw [flatC_length]; omega)
    have h2 : (flatC l).getD (k * 6 + j) undef = (Cd.cells (l.getD k zeroCd)).getD j undef := G.flat_getD Cd.cells 6 (fun _ => rfl) zeroCd l k j hk hj
    rw [h2, hx] at h1
    rw [Nat.add_assoc]
    exact h1
  exact ⟨key 0 (by omega), key 1 (by omega), key 2 (by omega), key 3 (by omega), key 4 (by omega), key 5 (by omega)⟩
theorem i64_at {w : World} {b off k : Nat} {l : List Int} (h : G.RdV w b off (i64s l)) (hk : k < l.length) : w.cell? ⟨b, off + k, none⟩ = some (.int .i64 (l.getD k 0)) := by
  rw [h.2 k (by rw [i64s_length]; exact hk)]
  simp [i64s, List.getD_eq_getElem?_getD, List.getElem?_eq_getElem hk]
/-- Where the lists of a state lie. -/
structure SV where
  pa : Option Addr
  pc : Nat
  ca : Option Addr
  cc : Nat
  za : Option Addr
  zc : Nat
  rows : List Value
def SV.arr (x : SV) (s : St) : Array Value := #[.slice x.pa s.players.length x.pc, .slice x.ca s.cards.length x.cc, .slice x.za s.zones.length x.zc, .int .i32 s.turn, .int .i64 s.whose, .int .i8 s.fin, .int .i64 s.winner]
def SV.val (x : SV) (s : St) : Value := .agg (x.arr s)
def zeroSV : SV := ⟨none, 0, none, 0, none, 0, []⟩
/-- A row of a list of lists. -/
def RdRow (w : World) (v : Value) (l : List Int) : Prop := ∃ a k, v = .slice a l.length k ∧ G.RdS w a 1 l.length (i64s l)
/-- A state reads. -/
structure RdSt (w : World) (x : SV) (s : St) : Prop where
  p : G.RdS w x.pa 3 s.players.length (flatP s.players)
  c : G.RdS w x.ca 6 s.cards.length (flatC s.cards)
  z : G.RdS w x.za 1 s.zones.length x.rows
  rows : ∀ i, i < s.zones.length → RdRow w (x.rows.getD i undef) (s.zones.getD i [])
/-- Sizes that every sum stands. -/
structure Sz (s : St) : Prop where
  p : s.players.length ≤ 33554432
  c : s.cards.length ≤ 33554432
  z : s.zones.length ≤ 33554432
  r : ∀ i, (s.zones.getD i []).length ≤ 33554432
theorem RdRow.below {w w' : World} {v : Value} {l : List Int} (h : RdRow w v l) (hb : Below w.heap.size w w') : RdRow w' v l := by
  obtain ⟨a, k, e, hr⟩ := h
  exact ⟨a, k, e, hr.below hb⟩
theorem RdSt.below {w w' : World} {x : SV} {s : St} (h : RdSt w x s) (hb : Below w.heap.size w w') : RdSt w' x s :=
  ⟨h.p.below hb, h.c.below hb, h.z.below hb, fun i hi => (h.rows i hi).below hb⟩
theorem rows_at {w : World} {a : Option Addr} {n i : Nat} {vs : List Value} (h : G.RdS w a 1 n vs) (hi : i < n) : ∃ b off, a = some ⟨b, off, none⟩ ∧ w.cell? ⟨b, off + i, none⟩ = some (vs.getD i undef) := by
  obtain ⟨b, off, e, hr⟩ := h.2 (by omega)
  exact ⟨b, off, e, hr.2 i (by have := h.1; omega)⟩
/-- A state that a call owns: its rows share nothing. -/
structure OwnSt (w : World) (base : Nat) (x : SV) (s : St) : Prop where
  p : w.ownsRow base 103 3 (.slice x.pa s.players.length x.pc) s.players.length (flatP s.players)
  c : w.ownsRow base 101 6 (.slice x.ca s.cards.length x.cc) s.cards.length (flatC s.cards)
  z : w.ownsRow base 28 1 (.slice x.za s.zones.length x.zc) s.zones.length x.rows
  rows : ∀ i, i < s.zones.length → w.ownsRow base 3 1 (x.rows.getD i undef) (s.zones.getD i []).length (i64s (s.zones.getD i []))
  apart : ∀ i j, i < s.zones.length → j < s.zones.length → i ≠ j → (x.rows.getD i undef).ownBlock = none ∨ (x.rows.getD i undef).ownBlock ≠ (x.rows.getD j undef).ownBlock
theorem OwnSt.below {w w' : World} {base : Nat} {x : SV} {s : St} (h : OwnSt w base x s) (hb : Below w.heap.size w w') : OwnSt w' base x s :=
  ⟨G.own_below h.p hb, G.own_below h.c hb, G.own_below h.z hb, fun i hi => G.own_below (h.rows i hi) hb, h.apart⟩
theorem OwnSt.ge {w : World} {base base' : Nat} {x : SV} {s : St} (h : OwnSt w base x s) (hb : base' ≤ base) : OwnSt w base' x s :=
  ⟨G.own_ge h.p hb, G.own_ge h.c hb, G.own_ge h.z hb, fun i hi => G.own_ge (h.rows i hi) hb, h.apart⟩
theorem row_of_own {w : World} {base : Nat} {e : TypeId} {v : Value} {l : List Int} (h : w.ownsRow base e 1 v l.length (i64s l)) : RdRow w v l := by
  obtain ⟨a, c, rfl⟩ := G.own_shape h
  exact ⟨a, c, rfl, G.RdS.of_own h⟩
theorem OwnSt.rd {w : World} {base : Nat} {x : SV} {s : St} (h : OwnSt w base x s) : RdSt w x s :=
  ⟨G.RdS.of_own h.p, G.RdS.of_own h.c, G.RdS.of_own h.z, fun i hi => row_of_own (h.rows i hi)⟩
theorem zero_own (w : World) (base : Nat) : OwnSt w base zeroSV zeroSt :=
  ⟨World.ownsRow_nil _ _ _ _, World.ownsRow_nil _ _ _ _, World.ownsRow_nil _ _ _ _, fun i hi => by simp [zeroSt] at hi, fun i j hi => by simp [zeroSt] at hi⟩
theorem zero_rd (w : World) : RdSt w zeroSV zeroSt := (zero_own w w.heap.size).rd
/-- Where the list of an event lies. -/
structure EV where
  oa : Option Addr
  oc : Nat
def EV.arr (y : EV) (e : Ev) : Array Value := #[.int .i8 e.kind, .int .i8 e.field, .int .i64 e.card, .int .i64 e.player, .int .i64 e.other, .int .i64 e.src, .int .i64 e.srcAt, .int .i64 e.dst, .int .i64 e.dstAt, .int .i32 e.was, .int .i32 e.now, .slice y.oa e.order.length y.oc]
def EV.val (y : EV) (e : Ev) : Value := .agg (y.arr e)
def RdEv (w : World) (y : EV) (e : Ev) : Prop := G.RdS w y.oa 1 e.order.length (i64s e.order)
def OwnEv (w : World) (base : Nat) (y : EV) (e : Ev) : Prop := w.ownsRow base 3 1 (.slice y.oa e.order.length y.oc) e.order.length (i64s e.order)
theorem RdEv.below {w w' : World} {y : EV} {e : Ev} (h : RdEv w y e) (hb : Below w.heap.size w w') : RdEv w' y e := G.RdS.below h hb
theorem OwnEv.below {w w' : World} {base : Nat} {y : EV} {e : Ev} (h : OwnEv w base y e) (hb : Below w.heap.size w w') : OwnEv w' base y e := G.own_below h hb
theorem OwnEv.rd {w : World} {base : Nat} {y : EV} {e : Ev} (h : OwnEv w base y e) : RdEv w y e := G.RdS.of_own h
/-- Numbers as an event's types have them. -/
structure Ev.Fits (e : Ev) : Prop where
  kind : -128 ≤ e.kind ∧ e.kind ≤ 127
  field : -128 ≤ e.field ∧ e.field ≤ 127
  card : -9223372036854775808 ≤ e.card ∧ e.card ≤ 9223372036854775807
  player : -9223372036854775808 ≤ e.player ∧ e.player ≤ 9223372036854775807
  other : -9223372036854775808 ≤ e.other ∧ e.other ≤ 9223372036854775807
  src : -9223372036854775808 ≤ e.src ∧ e.src ≤ 9223372036854775807
  srcAt : -9223372036854775808 ≤ e.srcAt ∧ e.srcAt ≤ 9223372036854775807
  dst : -9223372036854775808 ≤ e.dst ∧ e.dst ≤ 9223372036854775807
  dstAt : -9223372036854775808 ≤ e.dstAt ∧ e.dstAt ≤ 9223372036854775807
  was : -2147483648 ≤ e.was ∧ e.was ≤ 2147483647
  now : -2147483648 ≤ e.now ∧ e.now ≤ 2147483647
end Go.Proofs.YtofgmijmhpmabaaGreatDoor.D

/- What the laws' walks find: a state in a box, an event in a box, a list of one event. -/
import Derived.Test.YtmhklnjmeoeanaaGreatDoorDOne
import Derived.Great.BuildSlice
namespace Go.Proofs.YtmhklnjmeoeanaaGreatDoor.D
open Go Go.RowKit
set_option linter.unusedVariables false
set_option linter.unusedSimpArgs false
/-- What a region finds: a state in a box, an event in a box; what was there before stays. -/
structure TwH (B : World) (gx : Nat) (cx : Array Value) (ge : Nat) (ce : Array Value) (w : World) : Prop where
  bl : Below B.heap.size B w
  bx : G.Blk w gx 27 cx
  be : G.Blk w ge 37 ce
  sx : cx.size = 7
  se : ce.size = 12
  lx : gx < B.heap.size
  le : ge < B.heap.size
theorem TwH.below {B : World} {gx ge : Nat} {cx ce : Array Value} {w w' : World} (h : TwH B gx cx ge ce w) (hb : Below w.heap.size w w') : TwH B gx cx ge ce w' := ⟨G.bl_trans h.bl hb, h.bx.below hb h.bx.lt, h.be.below hb h.be.lt, h.sx, h.se, h.lx, h.le⟩
theorem TwH.row {B : World} {gx ge g2 : Nat} {cx ce ds : Array Value} {w : World} (h : TwH B gx cx ge ce w) (hg : B.heap.size ≤ g2) : TwH B gx cx ge ce (w.setRow g2 ds) :=
  ⟨below_setRow h.bl hg _, (setRow_other w g2 gx ds (by have := h.lx; omega)).trans h.bx, (setRow_other w g2 ge ds (by have := h.le; omega)).trans h.be, h.sx, h.se, h.lx, h.le⟩
def CallRel (B : World) (s : St) (o : Option St) (sp sk : Value) (wx : World) : Prop :=
  ∃ (g : Nat) (x : SV) (t : St) (k : Int), sp = .pointer (some ⟨g, 0, none⟩) ∧ sk = .int .i64 k ∧ G.Blk wx g 27 (x.arr t) ∧ RdSt wx x t ∧ Below B.heap.size B wx ∧
    ((k = 0 ∧ May s ∧ o = some t) ∨ (k = 11 ∧ May s ∧ o = none ∧ t = zeroSt) ∨ (k = 10 ∧ ¬ May s ∧ t = zeroSt))
theorem callRel_mk {B wA : World} {s : St} {o : Option St} {g base : Nat} {x : SV} {t : St} {k : Int} {zs : Array Value} (ho : OwnSt wA base x t) (hb : Below B.heap.size B (wA.setRow g (x.arr t))) (hB : G.Blk wA g 27 zs) (hg : B.heap.size ≤ g)
    (hc : (k = 0 ∧ May s ∧ o = some t) ∨ (k = 11 ∧ May s ∧ o = none ∧ t = zeroSt ∧ x = zeroSV) ∨ (k = 10 ∧ ¬ May s ∧ t = zeroSt ∧ x = zeroSV)) : CallRel B s o (.pointer (some ⟨g, 0, none⟩)) (.int .i64 k) (wA.setRow g (x.arr t)) :=
  ⟨g, x, t, k, rfl, rfl, setRow_heap _ _ _ _ _ _ hB, (ho.only (only_row hB) (by decide) (by decide) (by decide) (by decide)).rd, hb, hc.imp id (fun h => h.imp (fun ⟨a, b, c, d, _⟩ => ⟨a, b, c, d⟩) (fun ⟨a, b, c, _⟩ => ⟨a, b, c⟩))⟩
theorem infoEv : (Tryz.prog.info? 37).map (fun i => (i.zero, i.size, i.bytes)) = some (some (Value.agg zeroE), 12, 96) := by kernel_rfl
theorem fill_ev (y : EV) (e : Ev) : Instr.fill (fun i => some (i * 12, 12)) ((Array.range (1 * 12)).map ((Value.agg zeroE).cells[· % (Value.agg zeroE).cells.size]!)) [(0, .agg (y.arr e))] = some (y.arr e) := by kernel_rfl
theorem fill_evs {ce : Array Value} {y : EV} {e : Ev} {n : Nat} (h : ce = y.arr e) (hn : n = 12) : Instr.fill (fun i => some (i * n, n)) ((Array.range (1 * n)).map ((Value.agg zeroE).cells[· % (Value.agg zeroE).cells.size]!)) [(0, .agg ce)] = some ce := by
  subst h hn
  exact fill_ev y e
theorem wpList_buildOne {P : Program} {ops : Array Oper} {rest : List Oper} {o : Oper} {a : Act} {w : World} {Q : Exit → Act → World → Prop} (hg : o.guard = none) (t e : TypeId) (x : Operand) (ho : o.op = .buildSlice t 1 #[(0, x)])
    (cells : Array Value) (hx : a.eval x = .agg cells) (ie : TypeInfo) (z : Value)
    (hu : P.underlying t = some (.slice e)) (hie : P.info? e = some ie) (hz : ie.zero = some z) (hsmall : ¬ 1 * ie.size > 2 ^ 24) (hpos : ¬ 1 * ie.size = 0)
    (hf : Instr.fill (fun i => some (i * ie.size, ie.size)) ((Array.range (1 * ie.size)).map (z.cells[· % z.cells.size]!)) [(0, .agg cells)] = some cells)
    (h : wpList P ops Q rest (a.put o.dst (.slice (some ⟨w.heap.size, 0, none⟩) 1 1)) (w.alloc (.cells cells e))) : wpList P ops Q (o :: rest) a w := by
  refine wpList_buildSlice hg t e 1 _ ho cells ie z hu hie hz hsmall hpos ?_ h
  have e1 : ((#[(0, x)] : Array (Nat × Operand)).map fun (i, x) => (i, a.eval x)).toList = [(0, .agg cells)] := by simp [hx]
  rw [e1]
  exact hf
theorem zero_sz : Sz zeroSt := ⟨by decide, by decide, by decide, fun i => by simp [zeroSt]⟩
end Go.Proofs.YtmhklnjmeoeanaaGreatDoor.D

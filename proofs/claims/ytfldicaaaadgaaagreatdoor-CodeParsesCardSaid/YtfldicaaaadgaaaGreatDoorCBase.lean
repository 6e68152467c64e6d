/- Layer 16 in plain Lean: opcodes, instructions as bytes. No program in sight. -/
import Derived.WalkKit
import Derived.Deep.Draws
namespace Go.Proofs.YtfldicaaaadgaaaGreatDoor.Code
open Go Go.RowKit

/-- The opcodes: number, name, kind of operands. -/
def table : List (Int × List UInt8 × Int) := [(1, [112, 117, 115, 104], 2), (2, [116, 114, 117, 101], 0), (3, [102, 97, 108, 115, 101], 0), (4, [108, 111, 97, 100], 1), (5, [115, 116, 111, 114, 101], 1), (10, [97, 100, 100], 0), (11, [115, 117, 98], 0), (12, [109, 117, 108], 0), (13, [100, 105, 118], 0), (14, [114, 101, 109], 0), (15, [110, 101, 103], 0), (16, [97, 98, 115], 0), (17, [109, 105, 110], 0), (18, [109, 97, 120], 0), (19, [108, 116], 0), (20, [108, 101], 0), (21, [103, 116], 0), (22, [103, 101], 0), (23, [110, 111, 116], 0), (24, [101, 113], 1), (30, [106, 117, 109, 112], 2), (31, [117, 110, 108, 101, 115, 115], 2), (32, [101, 97, 99, 104], 3), (33, [99, 104, 111, 111, 115, 101], 2), (34, [115, 116, 111, 112], 0), (35, [97, 98, 111, 114, 116], 0), (40, [110, 101, 120, 116], 0), (41, [122, 111, 110, 101], 1), (42, [114, 97, 110, 100, 111, 109], 0), (43, [116, 111, 112], 0), (44, [104, 97, 115], 0), (45, [105, 115], 2), (46, [102, 105, 101, 108, 100], 1), (60, [100, 111], 1)]

/-- The row of an opcode. -/
def rowOf (op : Int) : Option (List UInt8 × Int) := (table.find? fun r => r.1 == op).map (·.2)
/-- The kind of an opcode's operands: 0 none, 1 one byte, 2 two bytes, 3 one, one, two; -1: no opcode. -/
def kindOf (op : Int) : Int := match rowOf op with | some r => r.2 | none => -1
def nameOf (op : Int) : List UInt8 := match rowOf op with | some r => r.1 | none => []
def strOf (l : List UInt8) : Value := .string ⟨l.toArray⟩

/-- How many bytes the operands of a kind have. -/
def width (k : Int) : Int := if k = 1 then 1 else if k = 2 then 2 else if k = 3 then 4 else 0
/-- P16.1 -/
def sizeOf (op : Int) : Int := if kindOf op < 0 then 0 else 1 + width (kindOf op)

/-- An instruction. -/
structure Ins where
  at_ : Int
  op : Int
  a : Int
  b : Int
  c : Int
  deriving DecidableEq
def Ins.cells (x : Ins) : List Value := [.int .i64 x.at_, .int .u8 x.op, .int .i64 x.a, .int .i64 x.b, .int .i64 x.c]
def Ins.val (x : Ins) : Value := .agg #[.int .i64 x.at_, .int .u8 x.op, .int .i64 x.a, .int .i64 x.b, .int .i64 x.c]
def zeroIns : Ins := ⟨0, 0, 0, 0, 0⟩

/-- P16.2: the instruction at a place, and the error. -/
def readAt (b : List Int) (at_ : Int) : Ins × Int :=
  if at_ < 0 ∨ (b.length : Int) ≤ at_ then (zeroIns, 1)
  else
    let i := at_.toNat
    let op := b.getD i 0
    let k := kindOf op
    if k < 0 then (zeroIns, 40)
    else if (b.length : Int) - at_ - 1 < width k then (zeroIns, 41)
    else if k = 1 then (⟨at_, op, b.getD (i + 1) 0, 0, 0⟩, 0)
    else if k = 2 then (⟨at_, op, b.getD (i + 1) 0 * 256 + b.getD (i + 2) 0, 0, 0⟩, 0)
    else if k = 3 then (⟨at_, op, b.getD (i + 1) 0, b.getD (i + 2) 0, b.getD (i + 3) 0 * 256 + b.getD (i + 4) 0⟩, 0)
    else (⟨at_, op, 0, 0, 0⟩, 0)

theorem kind_cases : ∀ n : Fin 256, let k := kindOf (n.val : Int); k = -1 ∨ k = 0 ∨ k = 1 ∨ k = 2 ∨ k = 3 := by decide +kernel
theorem kind_or (op : Int) (h0 : 0 ≤ op) (h1 : op < 256) : kindOf op = -1 ∨ kindOf op = 0 ∨ kindOf op = 1 ∨ kindOf op = 2 ∨ kindOf op = 3 := by
  have h := kind_cases ⟨op.toNat, by omega⟩
  simpa [Int.toNat_of_nonneg h0] using h

/-! ### The world behind a call -/
theorem Bl.al {a w : World} (h : Below a.heap.size a w) (o : Obj) : Below a.heap.size a (w.alloc o) := h.alloc h.size o
theorem Bl.tr {a w w' : World} (h : Below a.heap.size a w) (k : Below w.heap.size w w') : Below a.heap.size a w' := h.trans (k.mono h.size)
/-- All old cells and marks read as before. -/
theorem bcell {W w1 : World} (hb : Below W.heap.size W w1) : (∀ b o, b < W.heap.size → w1.cell? ⟨b, o, none⟩ = W.cell? ⟨b, o, none⟩) ∧ (∀ b o, b < W.heap.size → w1.frozen? ⟨b, o, none⟩ = W.frozen? ⟨b, o, none⟩) :=
  ⟨fun b o h => hb.cell (p := ⟨b, o, none⟩) h, fun b o h => hb.frozen (p := ⟨b, o, none⟩) h⟩
theorem Bl.dn {a w : World} (h : Below a.heap.size a w) (n : Nat) : Below a.heap.size a (w.drewN n) := ⟨h.os, h.tape, h.output, h.size, h.block⟩
theorem Bl.sc {a w : World} (h : Below a.heap.size a w) {p : Addr} (hp : a.heap.size ≤ p.block) (u : Value) : Below a.heap.size a (w.setCell p u) := h.setCell hp u

/-- A row of numbers of one kind. -/
def RdI (w : World) (k : IntKind) (b off : Nat) (zs : List Int) : Prop := b < w.heap.size ∧ ∀ j, j < zs.length → w.cell? ⟨b, off + j, none⟩ = some (.int k (zs.getD j 0))
theorem RdI.below {w w' : World} {k : IntKind} {b off : Nat} {zs : List Int} (h : RdI w k b off zs) (hb : Below w.heap.size w w') : RdI w' k b off zs :=
  ⟨Nat.lt_of_lt_of_le h.1 hb.size, fun j hj => (hb.cell (p := ⟨b, off + j, none⟩) h.1).trans (h.2 j hj)⟩
def IsBytes (zs : List Int) : Prop := ∀ j, 0 ≤ zs.getD j 0 ∧ zs.getD j 0 < 256

/-! ### Rows that the call owns -/
theorem Bl.gr {w w' : World} (h : Below w.heap.size w w') : w.grownBy w' none := ⟨h.os, h.tape, h.output, h.size, fun k hk _ => h.block k hk⟩
theorem Bl.own {w w' : World} {base : Nat} {e : TypeId} {size : Nat} {v : Value} {n : Nat} {xs : List Value} (h : w.ownsRow base e size v n xs) (hb : Below w.heap.size w w') : w'.ownsRow base e size v n xs :=
  h.kept (Bl.gr hb) (by cases hv : v.ownBlock <;> simp)
theorem Bl.grown {a w w' : World} {v : Value} {e : TypeId} {size n : Nat} {xs : List Value} (h : Below a.heap.size a w) (ho : w.ownsRow a.heap.size e size v n xs) (hg : w.grownBy w' v.ownBlock) : Below a.heap.size a w' :=
  h.grown hg h.size (fun k hk => (ho.lt k hk).1)
theorem cells_new (X : World) (l : List Value) (t : TypeId) (n : Nat) (hn : n = X.heap.size) : ∀ j u, l[j]? = some u → (X.alloc (.cells l.toArray t)).cell? ((⟨n, 0, none⟩ : Addr).add j) = some u := by
  intro j u hu
  subst hn
  rw [Addr.add_lit, Nat.zero_add, cell_of_row _ _ j l.toArray t (0, 0) (heap_alloc_new X _)]
  simpa using hu
theorem Ins.cells_one (x : Ins) : ∀ u ∈ x.cells, u.oneCell' = true := by
  intro u hu
  simp only [Ins.cells, List.mem_cons, List.mem_nil_iff, or_false] at hu
  rcases hu with rfl | rfl | rfl | rfl | rfl <;> rfl
end Go.Proofs.YtfldicaaaadgaaaGreatDoor.Code

/- The contract of code.forms: the table of the opcodes as a map that the call makes. -/
import Derived.Test.YtfldicaaaadgaaaGreatDoorProg
import Derived.Test.YtfldicaaaadgaaaGreatDoorCBase
import Derived.WalkSpells
import Derived.WalkLawsBesides
import Derived.MapKept
namespace Go.Proofs.YtfldicaaaadgaaaGreatDoor.Code
open Go.RowKit
theorem build1 (s : ByteArray) (w : World) : (Instr.build 72 #[(0, .string s)]).run Tryz.prog w = .ok (.agg #[.string s, .int .i64 0, .nilFunc]) w := by kernel_rfl
theorem build2 (s : ByteArray) (k : Int) (w : World) : (Instr.build 72 #[(0, .string s), (1, .int .i64 k)]).run Tryz.prog w = .ok (.agg #[.string s, .int .i64 k, .nilFunc]) w := by kernel_rfl
theorem alloc_set (W : World) (o o' : Obj) : ({ W.alloc o with heap := (W.alloc o).heap.setIfInBounds W.heap.size o' } : World) = W.alloc o' := by
  show ({ W with heap := (W.heap.push o).setIfInBounds W.heap.size o' } : World) = { W with heap := W.heap.push o' }
  congr 1
  apply Array.ext
  · simp
  · intro i h1 h2
    simp at h1 h2
    rw [Array.getElem_setIfInBounds (by simpa using h1)]
    by_cases h : W.heap.size = i
    · subst h; simp
    · rw [if_neg h, Array.getElem_push, Array.getElem_push]
      have : i < W.heap.size := by omega
      simp [this]
/-- A new entry in a map that is the last block. -/
theorem run_insert_new {P : Program} {t kt et : TypeId} (ht : P.underlying t = some (.map kt et)) (hk : P.underlying kt = some (.int .u8)) (W : World) (es : Array MapEntry) (n : Nat) (k : Int) (v : Value)
    (hf : Instr.findNow (.int .u8) (.int .u8 k) es.toList 0 = some none) :
    (Instr.mapUpdate t (.map (some W.heap.size)) (.int .u8 k) v).run P (W.alloc (.map es n)) = .ok () (W.alloc (.map (es.push { key := .int .u8 k, val := v, born := n }) (n + 1))) := by
  have hb : (W.alloc (.map es n)).heap[W.heap.size]? = some (.map es n) := heap_alloc_new W _
  have hkey : MapKept.IsKey (.int .u8) (.int .u8 k) := rfl
  simp [Instr.mapUpdate, run_underlying ht, MapKept.run_getObj_map hb, MapKept.run_checkKey hk hkey, MapKept.run_findKey hk hf, MapKept.run_setObj_map _ hb, Result.andThen]
  exact alloc_set W _ _
theorem findNow_nil (d : TypeDesc) (k : Value) (i : Nat) : Instr.findNow d k [] i = some none := rfl
theorem findNow_cons (a b : Int) (v : Value) (n : Nat) (es : List MapEntry) (i : Nat) :
    Instr.findNow (.int .u8) (.int .u8 a) ({ key := .int .u8 b, val := v, born := n } :: es) i = if a = b then some (some (i, v)) else Instr.findNow (.int .u8) (.int .u8 a) es (i + 1) := by
  by_cases h : a = b
  · subst h; simp [Instr.findNow, Instr.sameNow]
  · have h' : (a == b) = false := by simpa using h
    simp only [Instr.findNow, Instr.sameNow, if_true, h', if_neg h]
/-- The key is not among the entries. -/
def Fresh (k : Int) : List MapEntry → Prop
  | [] => True
  | e :: es => (match e.key with | .int .u8 b => k ≠ b | _ => False) ∧ Fresh k es
instance instDecidableFresh (k : Int) : (l : List MapEntry) → Decidable (Fresh k l)
  | [] => isTrue trivial
  | e :: es => by
    unfold Fresh
    have := instDecidableFresh k es
    have : Decidable (match e.key with | .int .u8 b => k ≠ b | _ => False) := by split <;> infer_instance
    infer_instance
theorem fresh_nil (k : Int) : Fresh k [] = True := rfl
theorem fresh_cons (k b : Int) (v : Value) (n : Nat) (l : List MapEntry) : Fresh k ({ key := .int .u8 b, val := v, born := n } :: l) = (k ≠ b ∧ Fresh k l) := rfl
theorem Fresh.find {k : Int} : ∀ {l : List MapEntry} (i : Nat), Fresh k l → Instr.findNow (.int .u8) (.int .u8 k) l i = some none
  | [], _, _ => rfl
  | ⟨key, v, n⟩ :: l, i, h => by
    obtain ⟨h1, h2⟩ := h
    simp only at h1
    split at h1
    · rename_i b
      rw [findNow_cons, if_neg h1]
      exact Fresh.find _ h2
    · exact h1.elim
noncomputable def insSlow (w : World) (es : Array MapEntry) (n : Nat) (k : Int) (v : Value) : Result Unit := Sem.run Tryz.prog (Instr.mapUpdate 93 (.map (some w.heap.size)) (.int .u8 k) v) (w.alloc (.map es n))
theorem run_insert_if (w : World) (es : Array MapEntry) (n : Nat) (k : Int) (v : Value) :
    Sem.run Tryz.prog (Instr.mapUpdate 93 (.map (some w.heap.size)) (.int .u8 k) v) (w.alloc (.map es n)) = if Fresh k es.toList then .ok () (w.alloc (.map (es.push { key := .int .u8 k, val := v, born := n }) (n + 1))) else insSlow w es n k v := by
  split
  · rename_i h
    exact run_insert_new (P := Tryz.prog) Tryz.underlying93 Tryz.underlying5 w es n k v (h.find 0)
  · rfl
def entryOf (n : Nat) (r : Int × List UInt8 × Int) : MapEntry := { key := .int .u8 r.1, val := .agg #[strOf r.2.1, .int .i64 r.2.2, .nilFunc], born := n }
def entriesFrom (n : Nat) : List (Int × List UInt8 × Int) → List MapEntry
  | [] => []
  | r :: l => entryOf n r :: entriesFrom (n + 1) l
/-- The map that forms() makes. -/
def formsMap : Obj := .map (entriesFrom 0 table).toArray 34
attribute [local go_sem] run_insert_if fresh_nil fresh_cons build1 build2
set_option maxHeartbeats 4000000 in
set_option maxRecDepth 100000 in
theorem forms_any (w : World) :
    Calls Tryz.prog 50 #[] w fun e w' => e = .returned (.map (some w.heap.size)) ∧ w.alloc formsMap = w' := by
  have hmm := @run_makeMap Tryz.prog
  go_enter Tryz.func50, Tryz.ntmps50
  go_wp2
  go_ret
  exact ⟨rfl, rfl⟩
end Go.Proofs.YtfldicaaaadgaaaGreatDoor.Code

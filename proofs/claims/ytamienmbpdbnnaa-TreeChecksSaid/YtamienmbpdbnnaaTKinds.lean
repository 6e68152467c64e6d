/- The contract of tree.kinds: the table of the nodes' kinds as a map that the call makes. -/
import Derived.Test.YtamienmbpdbnnaaTSame
import Derived.WalkSpells
import Derived.WalkLawsBesides
import Derived.MapKept
import Derived.Laws.EntriesVeiled
namespace Go.Proofs.Ytamienmbpdbnnaa.T
open Go Go.RowKit
set_option linter.unusedVariables false
set_option linter.unusedSimpArgs false
/-! ### Entries of a map whose keys are small numbers -/
theorem findNow_cons (a b : Int) (v : Value) (n : Nat) (es : List MapEntry) (i : Nat) :
    Instr.findNow (.int .i8) (.int .i8 a) ({ key := .int .i8 b, val := v, born := n } :: es) i = if a = b then some (some (i, v)) else Instr.findNow (.int .i8) (.int .i8 a) es (i + 1) := by
  by_cases h : a = b
  · subst h; simp [Instr.findNow, Instr.sameNow]
  · have h' : (a == b) = false := by simpa using h
    simp only [Instr.findNow, Instr.sameNow, if_true, h', if_neg h]
/-- The key is not among the entries. -/
def Fresh (k : Int) : List MapEntry → Prop
  | [] => True
  | e :: es => (match e.key with | .int .i8 b => k ≠ b | _ => False) ∧ Fresh k es
instance instDecidableFresh (k : Int) : (l : List MapEntry) → Decidable (Fresh k l)
  | [] => isTrue trivial
  | e :: es => by
    unfold Fresh
    have := instDecidableFresh k es
    have : Decidable (match e.key with | .int .i8 b => k ≠ b | _ => False) := by split <;> infer_instance
    infer_instance
theorem fresh_nil (k : Int) : Fresh k [] = True := rfl
theorem fresh_cons (k b : Int) (v : Value) (n : Nat) (l : List MapEntry) : Fresh k ({ key := .int .i8 b, val := v, born := n } :: l) = (k ≠ b ∧ Fresh k l) := rfl
theorem Fresh.find {k : Int} : ∀ {l : List MapEntry} (i : Nat), Fresh k l → Instr.findNow (.int .i8) (.int .i8 k) l i = some none
  | [], _, _ => rfl
  | ⟨key, v, n⟩ :: l, i, h => by
    obtain ⟨h1, h2⟩ := h
    simp only at h1
    split at h1
    · rename_i b
      rw [findNow_cons, if_neg h1]
      exact Fresh.find _ h2
    · exact h1.elim
/-- A world in which a block is another one. -/
def putObj (W : World) (b : Nat) (o : Obj) : World := { W with heap := W.heap.setIfInBounds b o }
theorem alloc_set (W : World) (o o' : Obj) : putObj (W.alloc o) W.heap.size o' = W.alloc o' := by
  show ({ W with heap := (W.heap.push o).setIfInBounds W.heap.size o' } : World) = { W with heap := W.heap.push o' }
  congr 1
  apply Array.ext
  · simp
  · intro i h1 h2
    simp at h1 h2
    rw [Array.getElem_setIfInBounds (by simpa using h1)]
    by_cases h : W.heap.size = i
    · subst h; simp
    · rw [if_neg h, Array.getElem_push, Array.getElem_push]
      have : i < W.heap.size := by omega
      simp [this]
theorem alloc_put (W : World) (o o' : Obj) (b : Nat) (hb : b < W.heap.size) : putObj (W.alloc o) b o' = (putObj W b o').alloc o := by
  show ({ W with heap := (W.heap.push o).setIfInBounds b o' } : World) = { W with heap := (W.heap.setIfInBounds b o').push o }
  congr 1
  apply Array.ext
  · simp
  · intro i h1 h2
    simp at h1 h2
    rw [Array.getElem_setIfInBounds (by simpa using h1), Array.getElem_push, Array.getElem_push]
    by_cases h : b = i
    · subst h
      simp [hb]
    · simp only [if_neg h]
      by_cases hi : i < W.heap.size
      · simp [hi, h]
      · simp [hi]
theorem run_insert_at {P : Program} {t kt et : TypeId} (ht : P.underlying t = some (.map kt et)) (hk : P.underlying kt = some (.int .i8)) (X : World) (b : Nat) (es : Array MapEntry) (n : Nat) (k : Int) (v : Value)
    (hb : X.heap[b]? = some (.map es n)) (hf : Instr.findNow (.int .i8) (.int .i8 k) es.toList 0 = some none) :
    (Instr.mapUpdate t (.map (some b)) (.int .i8 k) v).run P X = .ok () (putObj X b (.map (es.push { key := .int .i8 k, val := v, born := n }) (n + 1))) := by
  have hkey : MapKept.IsKey (.int .i8) (.int .i8 k) := rfl
  simp [Instr.mapUpdate, run_underlying ht, MapKept.run_getObj_map hb, MapKept.run_checkKey hk hkey, MapKept.run_findKey hk hf, MapKept.run_setObj_map _ hb, Result.andThen]
  rfl
/-- The world behind an insertion of a new key. -/
def insR (X : World) (b : Nat) (k : Int) (v : Value) : Option World :=
  match X.heap[b]? with
  | some (.map es n) => if Fresh k es.toList then some (putObj X b (.map (es.push { key := .int .i8 k, val := v, born := n }) (n + 1))) else none
  | _ => none
def insR0 (X : World) (b : Nat) (k : Int) (v : Value) : Option World := insR X b k v
theorem insR_base (w : World) (es : Array MapEntry) (n : Nat) (k : Int) (v : Value) :
    insR (w.alloc (.map es n)) w.heap.size k v = if Fresh k es.toList then some (w.alloc (.map (es.push { key := .int .i8 k, val := v, born := n }) (n + 1))) else none := by
  unfold insR
  rw [heap_alloc_new]
  simp only [alloc_set]
theorem insR_step (W : World) (cs : Array Value) (t : TypeId) (b : Nat) (k : Int) (v : Value) :
    insR (W.alloc (.cells cs t)) b k v = if b < W.heap.size then (insR W b k v).map (fun X => X.alloc (.cells cs t)) else insR0 (W.alloc (.cells cs t)) b k v := by
  split
  · rename_i h
    unfold insR
    rw [Below.heap_alloc W _ b h]
    split
    · rename_i es n he
      split
      · rw [alloc_put _ _ _ _ h]; rfl
      · rfl
    · rfl
  · rfl
noncomputable def insSlow (X : World) (b : Nat) (k : Int) (v : Value) : Result Unit := Sem.run Try.prog (Instr.mapUpdate 53 (.map (some b)) (.int .i8 k) v) X
theorem run_insert_R (X : World) (b : Nat) (k : Int) (v : Value) :
    Sem.run Try.prog (Instr.mapUpdate 53 (.map (some b)) (.int .i8 k) v) X = match insR X b k v with | some X' => .ok () X' | none => insSlow X b k v := by
  cases h : insR X b k v with
  | none => rfl
  | some X' =>
    unfold insR at h
    split at h
    · rename_i es n he
      split at h
      · rename_i hf
        obtain rfl := Option.some.inj h
        exact run_insert_at (P := Try.prog) Try.underlying53 Try.underlying31 X b es n k v he (hf.find 0)
      · cases h
    · cases h
/-! ### The kinds' rows as structs -/
def kindV (f : Value) (most : Int) (own : Value) (least : Int) (more : Bool) (rest : Int) : Value := .agg #[f, .int .i64 most, own, .int .i64 least, .bool more, .int .i64 rest]
theorem b045 (i : FuncId) (x y : Array Value) (r : Int) (w : World) : (Instr.build 62 #[(0, .func (.func i) x y), (4, .bool true), (5, .int .i64 r)]).run Try.prog w = .ok (.agg #[.func (.func i) x y, .int .i64 0, .slice none 0 0, .int .i64 0, .bool true, .int .i64 r]) w := by kernel_rfl
theorem b01 (i : FuncId) (x y : Array Value) (r : Int) (w : World) : (Instr.build 62 #[(0, .func (.func i) x y), (1, .int .i64 r)]).run Try.prog w = .ok (.agg #[.func (.func i) x y, .int .i64 r, .slice none 0 0, .int .i64 0, .bool false, .int .i64 0]) w := by kernel_rfl
theorem b0 (i : FuncId) (x y : Array Value) (w : World) : (Instr.build 62 #[(0, .func (.func i) x y)]).run Try.prog w = .ok (.agg #[.func (.func i) x y, .int .i64 0, .slice none 0 0, .int .i64 0, .bool false, .int .i64 0]) w := by kernel_rfl
theorem b0123 (i : FuncId) (x y : Array Value) (A : Option Addr) (n c : Nat) (r l : Int) (w : World) : (Instr.build 62 #[(0, .func (.func i) x y), (1, .int .i64 r), (2, .slice A n c), (3, .int .i64 l)]).run Try.prog w = .ok (.agg #[.func (.func i) x y, .int .i64 r, .slice A n c, .int .i64 l, .bool false, .int .i64 0]) w := by kernel_rfl
theorem b023 (i : FuncId) (x y : Array Value) (A : Option Addr) (n c : Nat) (l : Int) (w : World) : (Instr.build 62 #[(0, .func (.func i) x y), (2, .slice A n c), (3, .int .i64 l)]).run Try.prog w = .ok (.agg #[.func (.func i) x y, .int .i64 0, .slice A n c, .int .i64 l, .bool false, .int .i64 0]) w := by kernel_rfl
theorem or_any (A : Option Addr) (n c : Nat) (w : World) : Calls Try.prog 51 #[.slice A n c] w fun e w' => e = .returned (.func (.func 52) #[] #[.pointer (some ⟨w.heap.size, 0, none⟩)]) ∧ w.alloc (.cells #[.slice A n c] 77) = w' := by
  go_enter Try.func51, Try.ntmps51
  go_wp2
  go_ret
  exact ⟨rfl, rfl⟩
def ownIdx (op : Int) : Nat := if op = 7 then 1 else if op = 11 then 2 else if op = 12 then 5 else if op = 13 then 6 else if op = 14 then 7 else if op = 15 then 8 else if op = 16 then 9 else if op = 34 then 14 else if op = 35 then 15 else if op = 49 then 16 else (op - 19).toNat
def boxIdx (op : Int) : Nat := if op = 12 then 4 else if op = 19 then 11 else 13
/-- The function that looks at the text. -/
def fnV (B : Nat) (op tk : Int) : Value :=
  if tk = 0 then .func (.func 54) #[] #[] else if tk = 1 then .func (.func 55) #[] #[] else if tk = 2 then .func (.func 53) #[] #[]
  else if tk = 5 then .func (.func 56) #[] #[] else .func (.func 52) #[] #[.pointer (some ⟨B + boxIdx op, 0, none⟩)]
def ownV (B : Nat) (op : Int) (own : List Int) : Value := if own = [] then .slice none 0 0 else .slice (some ⟨B + ownIdx op, 0, none⟩) own.length own.length
def rowV (B : Nat) (op : Int) (r : KRow) : Value := .agg #[fnV B op r.tk, .int .i64 r.most, ownV B op r.own, .int .i64 r.least, .bool r.more, .int .i64 r.rest]
def kEntriesFrom (B n : Nat) : List (Int × KRow) → List MapEntry
  | [] => []
  | r :: l => { key := .int .i8 r.1, val := rowV B r.1 r.2, born := n } :: kEntriesFrom B (n + 1) l
def twoStr (a b : List UInt8) : Array Value := #[.string ⟨a.toArray⟩, .string ⟨b.toArray⟩]
/-- The blocks behind the map. -/
def kCells (B : Nat) : List (Array Value × TypeId) :=
  [(#[.int .i64 3, .int .i64 4], 47), (#[.int .i64 3], 47), (twoStr selfL meL, 9), (#[.slice (some ⟨B + 3, 0, none⟩) 2 2], 77), (#[.int .i64 3], 47), (#[.int .i64 3, .int .i64 4, .int .i64 6], 47),
   (#[.int .i64 4], 47), (#[.int .i64 3, .int .i64 4], 47), (#[.int .i64 3, .int .i64 4, .int .i64 4], 47), (twoStr hitL drawL, 9), (#[.slice (some ⟨B + 10, 0, none⟩) 2 2], 77),
   (twoStr selfL meL, 9), (#[.slice (some ⟨B + 12, 0, none⟩) 2 2], 77), (#[.int .i64 3], 47), (#[.int .i64 3], 47), (#[.int .i64 3], 47)] ++ List.replicate 13 (#[.int .i64 3, .int .i64 3], 47)
def allocs (W : World) : List (Array Value × TypeId) → World
  | [] => W
  | c :: l => allocs (W.alloc (.cells c.1 c.2)) l
def kWorld (w : World) : World := allocs (w.alloc (.map (kEntriesFrom w.heap.size 0 table).toArray 40)) (kCells w.heap.size)
attribute [local go_sem] run_insert_R insR_base insR_step fresh_nil fresh_cons b045 b01 b0 b0123 b023
set_option maxHeartbeats 16000000 in
set_option maxRecDepth 100000 in
theorem kinds_any (w : World) :
    Calls Try.prog 37 #[] w fun e w' => e = .returned (.map (some w.heap.size)) ∧ kWorld w = w' := by
  have hmm := @run_makeMap Try.prog
  go_enter Try.func37, Try.ntmps37
  go_wp2_with (go_at_call 51; refine (or_any _ _ _ _).mono ?_; rintro e w' ⟨rfl, rfl⟩)
  go_rounds 14
  go_ret
  exact ⟨rfl, rfl⟩
end Go.Proofs.Ytamienmbpdbnnaa.T

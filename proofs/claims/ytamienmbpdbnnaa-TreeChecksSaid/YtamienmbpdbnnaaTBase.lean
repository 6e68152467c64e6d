/- Trees as lists of nodes, in plain Lean: names and words, what may stand where, the places of kids, how deep and how heavy. No program in sight. -/
import Derived.WalkKit
namespace Go.Proofs.Ytamienmbpdbnnaa.T
open Go Go.RowKit
set_option linter.unusedVariables false
set_option linter.unusedSimpArgs false
/-- A node. -/
structure Nd where
  op : Int
  kind : Int
  n : Int
  m : Int
  text : ByteArray
  at_ : Int
  kids : Int
  deriving DecidableEq
def Nd.cells (x : Nd) : List Value := [.int .i8 x.op, .int .i8 x.kind, .int .i64 x.n, .int .i64 x.m, .string x.text, .int .i64 x.at_, .int .i64 x.kids]
def Nd.val (x : Nd) : Value := .agg #[.int .i8 x.op, .int .i8 x.kind, .int .i64 x.n, .int .i64 x.m, .string x.text, .int .i64 x.at_, .int .i64 x.kids]
def zeroNd : Nd := ⟨0, 0, 0, 0, ⟨#[]⟩, 0, 0⟩
def flat (l : List Nd) : List Value := l.flatMap Nd.cells
theorem flat_length (l : List Nd) : (flat l).length = l.length * 7 := by
  induction l with
  | nil => rfl
  | cons x l ih =>
    have : (flat (x :: l)).length = 7 + (flat l).length := by simp [flat, Nd.cells]; omega
    rw [this, ih, List.length_cons]
    omega
/-- Numbers as their types have them. -/
structure Nd.Fits (x : Nd) : Prop where
  op : -128 ≤ x.op ∧ x.op ≤ 127
  kind : -128 ≤ x.kind ∧ x.kind ≤ 127
  n : -9223372036854775808 ≤ x.n ∧ x.n ≤ 9223372036854775807
  m : -9223372036854775808 ≤ x.m ∧ x.m ≤ 9223372036854775807
  at_ : -9223372036854775808 ≤ x.at_ ∧ x.at_ ≤ 9223372036854775807
  kids : -9223372036854775808 ≤ x.kids ∧ x.kids ≤ 9223372036854775807
  text : x.text.size ≤ 16777216
/-! ### Names, words, texts -/
def smallB (b : UInt8) : Bool := 97 ≤ b && b ≤ 122
def partB (b : UInt8) : Bool := 97 ≤ b && b ≤ 122 || 65 ≤ b && b ≤ 90 || 48 ≤ b && b ≤ 57 || b == 95
def nameL (l : List UInt8) : Bool := decide (l.length ≤ 32) && (match l with | [] => false | b :: _ => smallB b) && l.all partB
def words : List (List UInt8) := [[99, 97, 114, 100], [99, 111, 115, 116], [112, 111, 119, 101, 114], [104, 101, 97, 108, 116, 104], [116, 97, 103], [111, 110], [119, 104, 101, 110], [108, 101, 116], [105, 102], [101, 108, 115, 101], [114, 101, 112, 101, 97, 116], [97, 115], [101, 97, 99, 104], [105, 110], [99, 104, 111, 111, 115, 101], [115, 116, 111, 112], [97, 98, 111, 114, 116], [116, 114, 117, 101], [102, 97, 108, 115, 101], [115, 101, 108, 102], [109, 101], [100, 101, 99, 107], [104, 97, 110, 100], [98, 111, 97, 114, 100], [103, 114, 97, 118, 101], [112, 108, 97, 121], [100, 105, 101], [104, 105, 116], [116, 117, 114, 110], [100, 114, 97, 119]]
def freeL (l : List UInt8) : Bool := nameL l && !words.contains l
def textL (l : List UInt8) : Bool := decide (l.length ≤ 64) && l.all fun b => 32 ≤ b && b ≤ 126
def selfL : List UInt8 := [115, 101, 108, 102]
def meL : List UInt8 := [109, 101]
def hitL : List UInt8 := [104, 105, 116]
def drawL : List UInt8 := [100, 114, 97, 119]
/-- What nodes of an Op are like: their text, the greatest number, what they ask for, how many at least, then more of others. -/
structure KRow where
  tk : Int
  most : Int
  own : List Int
  least : Int
  more : Bool
  rest : Int
  deriving DecidableEq
def table : List (Int × KRow) := [
  (1, ⟨0, 0, [], 0, true, 1⟩),
  (2, ⟨1, 0, [], 0, true, 2⟩),
  (3, ⟨0, 9223372036854775807, [], 0, false, 0⟩),
  (4, ⟨0, 9223372036854775807, [], 0, false, 0⟩),
  (5, ⟨0, 9223372036854775807, [], 0, false, 0⟩),
  (6, ⟨1, 0, [], 0, false, 0⟩),
  (7, ⟨0, 4, [3, 4], 1, false, 0⟩),
  (10, ⟨0, 0, [], 0, true, 5⟩),
  (11, ⟨2, 0, [3], 1, false, 0⟩),
  (12, ⟨3, 0, [3], 1, false, 0⟩),
  (13, ⟨0, 0, [3, 4, 6], 2, false, 0⟩),
  (14, ⟨2, 9223372036854775807, [4], 1, false, 0⟩),
  (15, ⟨2, 0, [3, 4], 2, false, 0⟩),
  (16, ⟨2, 0, [3, 4, 4], 2, false, 0⟩),
  (17, ⟨0, 0, [], 0, false, 0⟩),
  (18, ⟨0, 0, [], 0, false, 0⟩),
  (19, ⟨4, 0, [], 0, true, 3⟩),
  (30, ⟨0, 9223372036854775807, [], 0, false, 0⟩),
  (31, ⟨0, 0, [], 0, false, 0⟩),
  (32, ⟨0, 0, [], 0, false, 0⟩),
  (33, ⟨3, 0, [], 0, false, 0⟩),
  (34, ⟨0, 0, [3], 1, false, 0⟩),
  (35, ⟨0, 0, [3], 1, false, 0⟩),
  (49, ⟨5, 0, [3], 1, false, 0⟩),
  (50, ⟨2, 0, [], 0, true, 7⟩),
  (51, ⟨0, 3, [], 0, false, 0⟩),
  (52, ⟨1, 0, [], 0, false, 0⟩),
  (36, ⟨0, 0, [3, 3], 2, false, 0⟩),
  (37, ⟨0, 0, [3, 3], 2, false, 0⟩),
  (38, ⟨0, 0, [3, 3], 2, false, 0⟩),
  (39, ⟨0, 0, [3, 3], 2, false, 0⟩),
  (40, ⟨0, 0, [3, 3], 2, false, 0⟩),
  (41, ⟨0, 0, [3, 3], 2, false, 0⟩),
  (42, ⟨0, 0, [3, 3], 2, false, 0⟩),
  (43, ⟨0, 0, [3, 3], 2, false, 0⟩),
  (44, ⟨0, 0, [3, 3], 2, false, 0⟩),
  (45, ⟨0, 0, [3, 3], 2, false, 0⟩),
  (46, ⟨0, 0, [3, 3], 2, false, 0⟩),
  (47, ⟨0, 0, [3, 3], 2, false, 0⟩),
  (48, ⟨0, 0, [3, 3], 2, false, 0⟩)]
def rowOf (op : Int) : Option KRow := (table.find? fun r => r.1 == op).map (·.2)
/-- May a node of this Op stand where that is wanted? -/
def takesB (w op : Int) : Bool :=
  if w = 0 then op == 1 else if w = 1 then op == 2 else if w = 2 then decide (3 ≤ op ∧ op ≤ 7) else if w = 4 then op == 10 else if w = 5 then decide (11 ≤ op ∧ op ≤ 19)
  else if w = 6 then decide (op = 10 ∨ op = 13) else if w = 7 then decide (op = 51 ∨ op = 52 ∨ (30 ≤ op ∧ op ≤ 50)) else decide (30 ≤ op ∧ op ≤ 50)
def textOk (tk : Int) (l : List UInt8) : Bool :=
  if tk = 0 then l.isEmpty else if tk = 1 then textL l else if tk = 2 then freeL l else if tk = 3 then (l == selfL || l == meL || freeL l) else if tk = 4 then (l == hitL || l == drawL || freeL l) else nameL l
def mayB (r : KRow) (k : Int) : Bool := if k < 0 then false else if r.more then true else !(decide ((r.own.length : Int) < k) || decide (k < r.least))
def ownsOf (r : KRow) (k : Int) : List Int := if r.more then [] else if r.least = 1 ∧ r.own.length = 2 ∧ k = 1 then r.own.tail else r.own.take k.toNat
/-- May this node stand where that is wanted? -/
def nodeOk (x : Nd) (w : Int) : Bool :=
  match rowOf x.op with
  | none => false
  | some r => mayB r x.kids && takesB w x.op && x.kind == 0 && x.m == 0 && decide (0 ≤ x.at_) && decide (0 ≤ x.n) && decide (x.n ≤ r.most) && textOk r.tk x.text.data.toList
/-- A node whose kids are being gone through: what is asked for next, then always, how many are left. -/
structure Lev where
  own : List Int
  rest : Int
  left : Int
def Lev.want (f : Lev) : Int := match f.own with | [] => f.rest | w :: _ => w
def Lev.step (f : Lev) : Lev := ⟨f.own.tail, f.rest, f.left - 1⟩
def popZ : List Lev → List Lev
  | [] => []
  | f :: s => if f.left = 0 then popZ s else f :: s
def levOf (x : Nd) : Lev := match rowOf x.op with | none => ⟨[], 0, x.kids⟩ | some r => ⟨ownsOf r x.kids, r.rest, x.kids⟩
/-- P9.1, but for the depth: the place of the first node that is none for its place; -1: a tree. -/
def shapeGo : List Lev → Nat → List Nd → Int
  | s, i, [] => if (popZ s).isEmpty then -1 else i
  | s, i, x :: t => match popZ s with
    | [] => i
    | f :: s => if nodeOk x f.want then shapeGo (levOf x :: f.step :: s) (i + 1) t else i
def lev0 : Lev := ⟨[0], 0, 1⟩
def shapeOf (t : List Nd) : Int := shapeGo [lev0] 0 t
/-! ### The place behind a tree -/
/-- What is left behind so many trees; none: there aren't as many. -/
def need : Nat → List Nd → Option (List Nd)
  | 0, l => some l
  | _ + 1, [] => none
  | c + 1, x :: l => if 0 ≤ x.kids then need (c + x.kids.toNat) l else none
def behindOf (t : List Nd) (at_ : Int) : Int :=
  if at_ < 0 ∨ (t.length : Int) ≤ at_ then -1
  else match need 1 (t.drop at_.toNat) with
    | none => -1
    | some r => (t.length : Int) - r.length
/-! ### Ranks -/
def rankOf (op : Int) : Int :=
  if op = 36 then 1 else if op = 37 then 2 else if op = 34 then 3 else if 38 ≤ op ∧ op ≤ 43 then 4 else if op = 44 ∨ op = 45 then 5 else if op = 46 ∨ op = 47 ∨ op = 48 then 6 else if op = 35 then 7 else 8
def wantsOf (op : Int) (kid : Int) : Int :=
  let r := rankOf op
  if r = 1 ∨ r = 2 ∨ r = 5 ∨ r = 6 then (if kid = 0 then r else r + 1) else if r = 3 ∨ r = 7 then r else if r = 4 then 5 else if op = 49 then 8 else 1
def exprB (op : Int) : Bool := decide (30 ≤ op ∧ op ≤ 50)
def rowB (op : Int) : Bool := exprB op && (rankOf op == 1 || rankOf op == 2 || rankOf op == 5 || rankOf op == 6)
/-! ### P9.4 -/
def sameNd (x y : Nd) : Bool := x.op == y.op && x.kind == y.kind && x.n == y.n && x.m == y.m && x.text == y.text && x.kids == y.kids
def sameOf (a b : List Nd) : Bool := decide (a.length = b.length) && (a.zip b).all fun p => sameNd p.1 p.2
/-! ### Forests: a tree, its kids, what stands behind it -/
inductive Fo where
  | nil : Fo
  | cons (x : Nd) (ks rest : Fo) : Fo
def Fo.flat : Fo → List Nd
  | .nil => []
  | .cons x k r => x :: (k.flat ++ r.flat)
def Fo.len : Fo → Nat
  | .nil => 0
  | .cons _ _ r => r.len + 1
def Fo.wf : Fo → Prop
  | .nil => True
  | .cons x k r => x.kids = k.len ∧ k.wf ∧ r.wf
def Fo.app : Fo → Fo → Fo
  | .nil, g => g
  | .cons x k r, g => .cons x k (r.app g)
theorem Fo.app_flat (f g : Fo) : (f.app g).flat = f.flat ++ g.flat := by induction f with | nil => rfl | cons x k r _ ih => simp [Fo.app, Fo.flat, ih]
theorem Fo.app_len (f g : Fo) : (f.app g).len = f.len + g.len := by induction f with | nil => simp [Fo.app, Fo.len] | cons x k r _ ih => simp [Fo.app, Fo.len, ih]; omega
theorem Fo.app_wf {f g : Fo} (hf : f.wf) (hg : g.wf) : (f.app g).wf := by
  induction f with
  | nil => exact hg
  | cons x k r _ ih => exact ⟨hf.1, hf.2.1, ih hf.2.2⟩
theorem Fo.split : ∀ (n : Nat) (f : Fo), f.wf → n ≤ f.len → ∃ a b : Fo, f = a.app b ∧ a.len = n ∧ a.wf ∧ b.wf
  | 0, f, hf, _ => ⟨.nil, f, rfl, rfl, trivial, hf⟩
  | n + 1, .nil, _, h => by simp [Fo.len] at h
  | n + 1, .cons x k r, hf, h => by
    obtain ⟨a, b, e, hl, ha, hb⟩ := Fo.split n r hf.2.2 (by simp [Fo.len] at h; omega)
    exact ⟨.cons x k a, b, by rw [e]; rfl, by simp [Fo.len, hl], ⟨hf.1, hf.2.1, ha⟩, hb⟩
/-- So many trees behind a place are a forest. -/
theorem need_forest : ∀ (l : List Nd) (c : Nat) (r : List Nd), need c l = some r → ∃ f : Fo, f.wf ∧ f.len = c ∧ l = f.flat ++ r
  | l, 0, r, h => by
    rw [need] at h
    obtain rfl := Option.some.inj h
    exact ⟨.nil, trivial, rfl, rfl⟩
  | [], c + 1, r, h => by simp [need] at h
  | x :: l, c + 1, r, h => by
    rw [need] at h
    split at h
    · rename_i hk
      obtain ⟨f, hf, hl, e⟩ := need_forest l _ r h
      obtain ⟨a, b, rfl, ha, hwa, hwb⟩ := Fo.split x.kids.toNat f hf (by omega)
      rw [Fo.app_len] at hl
      rw [Fo.app_flat] at e
      exact ⟨.cons x a b, ⟨by omega, hwa, hwb⟩, by simp [Fo.len]; omega, by simp [Fo.flat, e]⟩
    · cases h
theorem forest_need : ∀ (f : Fo), f.wf → ∀ (c : Nat) (r : List Nd), need (f.len + c) (f.flat ++ r) = need c r
  | .nil, _, c, r => by simp [Fo.len, Fo.flat]
  | .cons x k s, h, c, r => by
    have e1 : (Fo.cons x k s).len + c = (s.len + c) + 1 := by simp [Fo.len]; omega
    have e2 : (Fo.cons x k s).flat ++ r = x :: (k.flat ++ (s.flat ++ r)) := by simp [Fo.flat]
    have hk : (0 : Int) ≤ x.kids := by rw [h.1]; omega
    rw [e1, e2, need, if_pos hk]
    have e3 : s.len + c + x.kids.toNat = k.len + (s.len + c) := by rw [h.1]; omega
    rw [e3, forest_need k h.2.1, forest_need s h.2.2]
theorem need_len : ∀ (l : List Nd) (c : Nat) (r : List Nd), need c l = some r → r.length + c ≤ l.length := by
  intro l
  induction l with
  | nil => intro c r h; cases c with | zero => rw [need] at h; obtain rfl := Option.some.inj h; simp | succ c => simp [need] at h
  | cons x l ih =>
    intro c r h
    cases c with
    | zero => rw [need] at h; obtain rfl := Option.some.inj h; simp
    | succ c =>
      rw [need] at h
      split at h
      · have := ih _ r h
        simp only [List.length_cons]
        omega
      · cases h
end Go.Proofs.Ytamienmbpdbnnaa.T

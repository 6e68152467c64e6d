/- States, events, deeds, in plain Lean: what may be, what an event makes of a state, what takes it back. No program in sight. -/
import Derived.WalkKit
namespace Go.Proofs.YtofgmijmhpmabaaGreatDoor.D
open Go Go.RowKit
set_option linter.unusedVariables false
set_option linter.unusedSimpArgs false
/-- A player. -/
structure Pl where
  life : Int
  energy : Int
  out : Bool
  deriving DecidableEq
/-- A card. -/
structure Cd where
  kind : Int
  owner : Int
  power : Int
  health : Int
  damage : Int
  marks : Int
  deriving DecidableEq
/-- A state. -/
structure St where
  players : List Pl
  cards : List Cd
  zones : List (List Int)
  turn : Int
  whose : Int
  fin : Int
  winner : Int
  deriving DecidableEq
/-- An event. -/
structure Ev where
  kind : Int
  field : Int
  card : Int
  player : Int
  other : Int
  src : Int
  srcAt : Int
  dst : Int
  dstAt : Int
  was : Int
  now : Int
  order : List Int
  deriving DecidableEq
def Pl.cells (x : Pl) : List Value := [.int .i32 x.life, .int .i32 x.energy, .bool x.out]
def Pl.val (x : Pl) : Value := .agg #[.int .i32 x.life, .int .i32 x.energy, .bool x.out]
def zeroPl : Pl := ⟨0, 0, false⟩
def Cd.cells (x : Cd) : List Value := [.int .i64 x.kind, .int .i64 x.owner, .int .i32 x.power, .int .i32 x.health, .int .i32 x.damage, .int .i32 x.marks]
def Cd.val (x : Cd) : Value := .agg #[.int .i64 x.kind, .int .i64 x.owner, .int .i32 x.power, .int .i32 x.health, .int .i32 x.damage, .int .i32 x.marks]
def zeroCd : Cd := ⟨0, 0, 0, 0, 0, 0⟩
def zeroSt : St := ⟨[], [], [], 0, 0, 0, 0⟩
def zeroEv : Ev := ⟨0, 0, 0, 0, 0, 0, 0, 0, 0, 0, 0, []⟩
def flatP (l : List Pl) : List Value := l.flatMap Pl.cells
def flatC (l : List Cd) : List Value := l.flatMap Cd.cells
theorem flatP_length (l : List Pl) : (flatP l).length = l.length * 3 := by
  induction l with
  | nil => rfl
  | cons x l ih =>
    have : (flatP (x :: l)).length = 3 + (flatP l).length := by simp [flatP, Pl.cells]; omega
    rw [this, ih, List.length_cons]
    omega
theorem flatC_length (l : List Cd) : (flatC l).length = l.length * 6 := by
  induction l with
  | nil => rfl
  | cons x l ih =>
    have : (flatC (x :: l)).length = 6 + (flatC l).length := by simp [flatC, Cd.cells]; omega
    rw [this, ih, List.length_cons]
    omega
def i64s (l : List Int) : List Value := l.map (Value.int .i64)
theorem i64s_length (l : List Int) : (i64s l).length = l.length := by simp [i64s]
/-! ### Which states may be -/
def Stat (x : Int) : Prop := -1000000000 ≤ x ∧ x ≤ 1000000000
instance (x : Int) : Decidable (Stat x) := by unfold Stat; infer_instance
def CardOk (n : Int) (c : Cd) : Prop := (0 ≤ c.kind ∧ c.kind < 256) ∧ (0 ≤ c.owner ∧ c.owner < n) ∧ Stat c.power ∧ Stat c.health ∧ Stat c.damage ∧ Stat c.marks
instance (n : Int) (c : Cd) : Decidable (CardOk n c) := by unfold CardOk; infer_instance
structure May (s : St) : Prop where
  n2 : 2 ≤ s.players.length
  n4 : s.players.length ≤ 4
  m1 : 1 ≤ s.cards.length
  m256 : s.cards.length ≤ 256
  zn : s.zones.length = 4 * s.players.length
  pl : ∀ p ∈ s.players, Stat p.life ∧ Stat p.energy
  cd : ∀ c ∈ s.cards, CardOk s.players.length c
  rng : ∀ c ∈ s.zones.flatten, 0 ≤ c ∧ c < s.cards.length
  nd : s.zones.flatten.Nodup
  all : s.zones.flatten.length = s.cards.length
  turn : 1 ≤ s.turn
  whose : 0 ≤ s.whose ∧ s.whose < s.players.length
  fin : 0 ≤ s.fin ∧ s.fin ≤ 2
  won : s.fin = 1 → 0 ≤ s.winner ∧ s.winner < s.players.length
  lost : s.fin ≠ 1 → s.winner = 0
/-! ### What an event makes of a state -/
def zone (s : St) (z : Int) : List Int := s.zones.getD z.toNat []
def Within (k : Int) (n : Nat) : Prop := 0 ≤ k ∧ k < n
instance (k : Int) (n : Nat) : Decidable (Within k n) := by unfold Within; infer_instance
def moveZ (zs : List (List Int)) (card src srcAt dst dstAt : Int) : List (List Int) :=
  let z1 := zs.set src.toNat ((zs.getD src.toNat []).eraseIdx srcAt.toNat)
  z1.set dst.toNat ((z1.getD dst.toNat []).insertIdx dstAt.toNat card)
def MoveOk (s : St) (card src srcAt dst dstAt : Int) : Prop :=
  Within src s.zones.length ∧ Within dst s.zones.length ∧ ¬ (src = dst ∧ srcAt = dstAt) ∧ Within srcAt (zone s src).length ∧ (zone s src).getD srcAt.toNat 0 = card ∧
    0 ≤ dstAt ∧ dstAt ≤ (if src = dst then ((zone s dst).length : Int) - 1 else (zone s dst).length)
instance (s : St) (a b c d e : Int) : Decidable (MoveOk s a b c d e) := by unfold MoveOk; infer_instance
def moveS (s : St) (card src srcAt dst dstAt : Int) : Option St :=
  if MoveOk s card src srcAt dst dstAt then some { s with zones := moveZ s.zones card src srcAt dst dstAt } else none
def cardF (c : Cd) (f : Int) : Int := if f = 1 then c.power else if f = 2 then c.health else if f = 3 then c.damage else c.marks
def cardSet (c : Cd) (f v : Int) : Cd := if f = 1 then { c with power := v } else if f = 2 then { c with health := v } else if f = 3 then { c with damage := v } else { c with marks := v }
def plF (p : Pl) (f : Int) : Int := if f = 5 then p.life else p.energy
def plSet (p : Pl) (f v : Int) : Pl := if f = 5 then { p with life := v } else { p with energy := v }
def getF (s : St) (f number : Int) : Option Int :=
  if f ≤ 4 then (if 1 ≤ f ∧ Within number s.cards.length then some (cardF (s.cards.getD number.toNat zeroCd) f) else none)
  else if f ≤ 6 ∧ Within number s.players.length then some (plF (s.players.getD number.toNat zeroPl) f) else none
def setF (s : St) (f number v : Int) : St :=
  if f ≤ 4 then { s with cards := s.cards.set number.toNat (cardSet (s.cards.getD number.toNat zeroCd) f v) }
  else { s with players := s.players.set number.toNat (plSet (s.players.getD number.toNat zeroPl) f v) }
def changeS (s : St) (f number was now : Int) : Option St :=
  if getF s f number = some was ∧ was ≠ now ∧ Stat now then some (setF s f number now) else none
def IsOrder (l : List Int) (n : Nat) : Prop := l.length = n ∧ (∀ i ∈ l, Within i n) ∧ l.Nodup
instance (l : List Int) (n : Nat) : Decidable (IsOrder l n) := by unfold IsOrder; infer_instance
def Rises (l : List Int) : Prop := l = (List.range l.length).map Int.ofNat
instance (l : List Int) : Decidable (Rises l) := by unfold Rises; infer_instance
def shufF (order l : List Int) : List Int := order.map fun k => l.getD k.toNat 0
def shufB (order l : List Int) : List Int := (List.range order.length).map fun j => l.getD (order.idxOf (Int.ofNat j)) 0
def shuffleS (s : St) (z : Int) (order : List Int) (back : Bool) : Option St :=
  if Within z s.zones.length ∧ IsOrder order (zone s z).length ∧ ¬ Rises order then
    some { s with zones := s.zones.set z.toNat (if back then shufB order (zone s z) else shufF order (zone s z)) } else none
def outS (s : St) (p : Int) (now : Bool) : Option St :=
  if Within p s.players.length ∧ (s.players.getD p.toNat zeroPl).out ≠ now then some { s with players := s.players.set p.toNat { s.players.getD p.toNat zeroPl with out := now } } else none
def turnS (s : St) (was now src dst by_ : Int) : Option St :=
  if s.turn = was ∧ s.whose = src ∧ Within dst s.players.length ∧ now = was + by_ then some { s with turn := now, whose := dst } else none
def endS (s : St) (now p : Int) : Option St :=
  if s.fin = 0 ∧ ((now = 1 ∧ Within p s.players.length) ∨ (now = 2 ∧ p = 0)) then some { s with fin := now, winner := p } else none
def endB (s : St) (now p : Int) : Option St :=
  if s.fin ≠ 0 ∧ s.fin = now ∧ s.winner = p then some { s with fin := 0, winner := 0 } else none
def doE (s : St) (e : Ev) : Option St :=
  if e.kind = 1 then moveS s e.card e.src e.srcAt e.dst e.dstAt
  else if e.kind = 2 then (if e.field ≤ 4 then changeS s e.field e.card e.was e.now else none)
  else if e.kind = 3 then (if 5 ≤ e.field then changeS s e.field e.player e.was e.now else none)
  else if e.kind = 4 then shuffleS s e.src e.order false
  else if e.kind = 5 then outS s e.player true
  else if e.kind = 6 then turnS s e.was e.now e.player e.other 1
  else if e.kind = 7 then endS s e.now e.player
  else none
def backE (s : St) (e : Ev) : Option St :=
  if e.kind = 1 then moveS s e.card e.dst e.dstAt e.src e.srcAt
  else if e.kind = 2 then (if e.field ≤ 4 then changeS s e.field e.card e.now e.was else none)
  else if e.kind = 3 then (if 5 ≤ e.field then changeS s e.field e.player e.now e.was else none)
  else if e.kind = 4 then shuffleS s e.src e.order true
  else if e.kind = 5 then outS s e.player false
  else if e.kind = 6 then (if 1 ≤ e.was then turnS s e.now e.was e.other e.player (-1) else none)
  else if e.kind = 7 then endB s e.now e.player
  else none
/-- What a kind of events keeps of an event. -/
def keepE (e : Ev) : Ev :=
  if e.kind = 1 then { zeroEv with kind := e.kind, card := e.card, src := e.src, srcAt := e.srcAt, dst := e.dst, dstAt := e.dstAt }
  else if e.kind = 2 then { zeroEv with kind := e.kind, field := e.field, card := e.card, was := e.was, now := e.now }
  else if e.kind = 3 then { zeroEv with kind := e.kind, field := e.field, player := e.player, was := e.was, now := e.now }
  else if e.kind = 4 then { zeroEv with kind := e.kind, src := e.src, order := e.order }
  else if e.kind = 5 then { zeroEv with kind := e.kind, player := e.player }
  else if e.kind = 6 then { zeroEv with kind := e.kind, was := e.was, now := e.now, player := e.player, other := e.other }
  else if e.kind = 7 then { zeroEv with kind := e.kind, now := e.now, player := e.player }
  else zeroEv
def PlainE (e : Ev) : Prop := (1 ≤ e.kind ∧ e.kind ≤ 7) ∧ keepE e = e
instance (e : Ev) : Decidable (PlainE e) := by unfold PlainE; infer_instance
def stepE (s : St) (e : Ev) (back : Bool) : Option St := if PlainE e then (if back then backE s e else doE s e) else none
end Go.Proofs.YtofgmijmhpmabaaGreatDoor.D

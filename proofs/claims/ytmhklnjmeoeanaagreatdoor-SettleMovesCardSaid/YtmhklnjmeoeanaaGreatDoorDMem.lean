/- States, events in memory: how their values read, what a call owns. -/
import Derived.WalkKit
import Derived.Below
import Derived.Laws.OwnMore
import Derived.Deep.AppendLies
import Derived.Deep.Draws
import Derived.Laws.Rows
import Derived.Laws.AppendOwn
import Derived.Deep.Slices
import Derived.Deep.Fields
import Derived.ChangeSame
import Derived.Test.YtmhklnjmeoeanaaGreatDoorProg
namespace Go.Proofs.YtmhklnjmeoeanaaGreatDoor.D
open Go Go.RowKit
set_option linter.unusedVariables false
set_option linter.unusedSimpArgs false
/-- A player. -/
structure Pl where
  life : Int
  energy : Int
  out : Bool
  deriving DecidableEq
/-- A card. -/
structure Cd where
  kind : Int
  owner : Int
  power : Int
  health : Int
  damage : Int
  marks : Int
  deriving DecidableEq
/-- A state. -/
structure St where
  players : List Pl
  cards : List Cd
  zones : List (List Int)
  turn : Int
  whose : Int
  fin : Int
  winner : Int
  deriving DecidableEq
/-- An event. -/
structure Ev where
  kind : Int
  field : Int
  card : Int
  player : Int
  other : Int
  src : Int
  srcAt : Int
  dst : Int
  dstAt : Int
  was : Int
  now : Int
  order : List Int
  deriving DecidableEq
def Pl.cells (x : Pl) : List Value := [.int .i32 x.life, .int .i32 x.energy, .bool x.out]
def Pl.val (x : Pl) : Value := .agg #[.int .i32 x.life, .int .i32 x.energy, .bool x.out]
def zeroPl : Pl := ⟨0, 0, false⟩
def Cd.cells (x : Cd) : List Value := [.int .i64 x.kind, .int .i64 x.owner, .int .i32 x.power, .int .i32 x.health, .int .i32 x.damage, .int .i32 x.marks]
def Cd.val (x : Cd) : Value := .agg #[.int .i64 x.kind, .int .i64 x.owner, .int .i32 x.power, .int .i32 x.health, .int .i32 x.damage, .int .i32 x.marks]
def zeroCd : Cd := ⟨0, 0, 0, 0, 0, 0⟩
def zeroSt : St := ⟨[], [], [], 0, 0, 0, 0⟩
def zeroEv : Ev := ⟨0, 0, 0, 0, 0, 0, 0, 0, 0, 0, 0, []⟩
def flatP (l : List Pl) : List Value := l.flatMap Pl.cells
def flatC (l : List Cd) : List Value := l.flatMap Cd.cells
theorem flatP_length (l : List Pl) : (flatP l).length = l.length * 3 := by
  induction l with
  | nil => rfl
  | cons x l ih =>
    have : (flatP (x :: l)).length = 3 + (flatP l).length := by simp [flatP, Pl.cells]; omega
    rw [this, ih, List.length_cons]
    omega
theorem flatC_length (l : List Cd) : (flatC l).length = l.length * 6 := by
  induction l with
  | nil => rfl
  | cons x l ih =>
    have : (flatC (x :: l)).length = 6 + (flatC l).length := by simp [flatC, Cd.cells]; omega
    rw [this, ih, List.length_cons]
    omega
def i64s (l : List Int) : List Value := l.map (Value.int .i64)
theorem i64s_length (l : List Int) : (i64s l).length = l.length := by simp [i64s]
/-! ### Which states may be -/
def Stat (x : Int) : Prop := -1000000000 ≤ x ∧ x ≤ 1000000000
instance (x : Int) : Decidable (Stat x) := by unfold Stat; infer_instance
def CardOk (n : Int) (c : Cd) : Prop := (0 ≤ c.kind ∧ c.kind < 256) ∧ (0 ≤ c.owner ∧ c.owner < n) ∧ Stat c.power ∧ Stat c.health ∧ Stat c.damage ∧ Stat c.marks
instance (n : Int) (c : Cd) : Decidable (CardOk n c) := by unfold CardOk; infer_instance
structure May (s : St) : Prop where
  n2 : 2 ≤ s.players.length
  n4 : s.players.length ≤ 4
  m1 : 1 ≤ s.cards.length
  m256 : s.cards.length ≤ 256
  zn : s.zones.length = 4 * s.players.length
  pl : ∀ p ∈ s.players, Stat p.life ∧ Stat p.energy
  cd : ∀ c ∈ s.cards, CardOk s.players.length c
  rng : ∀ c ∈ s.zones.flatten, 0 ≤ c ∧ c < s.cards.length
  nd : s.zones.flatten.Nodup
  all : s.zones.flatten.length = s.cards.length
  turn : 1 ≤ s.turn
  whose : 0 ≤ s.whose ∧ s.whose < s.players.length
  fin : 0 ≤ s.fin ∧ s.fin ≤ 2
  won : s.fin = 1 → 0 ≤ s.winner ∧ s.winner < s.players.length
  lost : s.fin ≠ 1 → s.winner = 0
/-! ### What an event makes of a state -/
def zone (s : St) (z : Int) : List Int := s.zones.getD z.toNat []
def Within (k : Int) (n : Nat) : Prop := 0 ≤ k ∧ k < n
instance (k : Int) (n : Nat) : Decidable (Within k n) := by unfold Within; infer_instance
def moveZ (zs : List (List Int)) (card src srcAt dst dstAt : Int) : List (List Int) :=
  let z1 := zs.set src.toNat ((zs.getD src.toNat []).eraseIdx srcAt.toNat)
  z1.set dst.toNat ((z1.getD dst.toNat []).insertIdx dstAt.toNat card)
def MoveOk (s : St) (card src srcAt dst dstAt : Int) : Prop :=
  Within src s.zones.length ∧ Within dst s.zones.length ∧ ¬ (src = dst ∧ srcAt = dstAt) ∧ Within srcAt (zone s src).length ∧ (zone s src).getD srcAt.toNat 0 = card ∧
    0 ≤ dstAt ∧ dstAt ≤ (if src = dst then ((zone s dst).length : Int) - 1 else (zone s dst).length)
instance (s : St) (a b c d e : Int) : Decidable (MoveOk s a b c d e) := by unfold MoveOk; infer_instance
def moveS (s : St) (card src srcAt dst dstAt : Int) : Option St :=
  if MoveOk s card src srcAt dst dstAt then some { s with zones := moveZ s.zones card src srcAt dst dstAt } else none
def cardF (c : Cd) (f : Int) : Int := if f = 1 then c.power else if f = 2 then c.health else if f = 3 then c.damage else c.marks
def cardSet (c : Cd) (f v : Int) : Cd := if f = 1 then { c with power := v } else if f = 2 then { c with health := v } else if f = 3 then { c with damage := v } else { c with marks := v }
def plF (p : Pl) (f : Int) : Int := if f = 5 then p.life else p.energy
def plSet (p : Pl) (f v : Int) : Pl := if f = 5 then { p with life := v } else { p with energy := v }
def getF (s : St) (f number : Int) : Option Int :=
  if f ≤ 4 then (if 1 ≤ f ∧ Within number s.cards.length then some (cardF (s.cards.getD number.toNat zeroCd) f) else none)
  else if f ≤ 6 ∧ Within number s.players.length then some (plF (s.players.getD number.toNat zeroPl) f) else none
def setF (s : St) (f number v : Int) : St :=
  if f ≤ 4 then { s with cards := s.cards.set number.toNat (cardSet (s.cards.getD number.toNat zeroCd) f v) }
  else { s with players := s.players.set number.toNat (plSet (s.players.getD number.toNat zeroPl) f v) }
def changeS (s : St) (f number was now : Int) : Option St :=
  if getF s f number = some was ∧ was ≠ now ∧ Stat now then some (setF s f number now) else none
def IsOrder (l : List Int) (n : Nat) : Prop := l.length = n ∧ (∀ i ∈ l, Within i n) ∧ l.Nodup
instance (l : List Int) (n : Nat) : Decidable (IsOrder l n) := by unfold IsOrder; infer_instance
def Rises (l : List Int) : Prop := l = (List.range l.length).map Int.ofNat
instance (l : List Int) : Decidable (Rises l) := by unfold Rises; infer_instance
def shufF (order l : List Int) : List Int := order.map fun k => l.getD k.toNat 0
def shufB (order l : List Int) : List Int := (List.range order.length).map fun j => l.getD (order.idxOf (Int.ofNat j)) 0
def shuffleS (s : St) (z : Int) (order : List Int) (back : Bool) : Option St :=
  if Within z s.zones.length ∧ IsOrder order (zone s z).length ∧ ¬ Rises order then
    some { s with zones := s.zones.set z.toNat (if back then shufB order (zone s z) else shufF order (zone s z)) } else none
def outS (s : St) (p : Int) (now : Bool) : Option St :=
  if Within p s.players.length ∧ (s.players.getD p.toNat zeroPl).out ≠ now then some { s with players := s.players.set p.toNat { s.players.getD p.toNat zeroPl with out := now } } else none
def turnS (s : St) (was now src dst by_ : Int) : Option St :=
  if s.turn = was ∧ s.whose = src ∧ Within dst s.players.length ∧ now = was + by_ then some { s with turn := now, whose := dst } else none
def endS (s : St) (now p : Int) : Option St :=
  if s.fin = 0 ∧ ((now = 1 ∧ Within p s.players.length) ∨ (now = 2 ∧ p = 0)) then some { s with fin := now, winner := p } else none
def endB (s : St) (now p : Int) : Option St :=
  if s.fin ≠ 0 ∧ s.fin = now ∧ s.winner = p then some { s with fin := 0, winner := 0 } else none
def doE (s : St) (e : Ev) : Option St :=
  if e.kind = 1 then moveS s e.card e.src e.srcAt e.dst e.dstAt
  else if e.kind = 2 then (if e.field ≤ 4 then changeS s e.field e.card e.was e.now else none)
  else if e.kind = 3 then (if 5 ≤ e.field then changeS s e.field e.player e.was e.now else none)
  else if e.kind = 4 then shuffleS s e.src e.order false
  else if e.kind = 5 then outS s e.player true
  else if e.kind = 6 then turnS s e.was e.now e.player e.other 1
  else if e.kind = 7 then endS s e.now e.player
  else none
def backE (s : St) (e : Ev) : Option St :=
  if e.kind = 1 then moveS s e.card e.dst e.dstAt e.src e.srcAt
  else if e.kind = 2 then (if e.field ≤ 4 then changeS s e.field e.card e.now e.was else none)
  else if e.kind = 3 then (if 5 ≤ e.field then changeS s e.field e.player e.now e.was else none)
  else if e.kind = 4 then shuffleS s e.src e.order true
  else if e.kind = 5 then outS s e.player false
  else if e.kind = 6 then (if 1 ≤ e.was then turnS s e.now e.was e.other e.player (-1) else none)
  else if e.kind = 7 then endB s e.now e.player
  else none
/-- What a kind of events keeps of an event. -/
def keepE (e : Ev) : Ev :=
  if e.kind = 1 then { zeroEv with kind := e.kind, card := e.card, src := e.src, srcAt := e.srcAt, dst := e.dst, dstAt := e.dstAt }
  else if e.kind = 2 then { zeroEv with kind := e.kind, field := e.field, card := e.card, was := e.was, now := e.now }
  else if e.kind = 3 then { zeroEv with kind := e.kind, field := e.field, player := e.player, was := e.was, now := e.now }
  else if e.kind = 4 then { zeroEv with kind := e.kind, src := e.src, order := e.order }
  else if e.kind = 5 then { zeroEv with kind := e.kind, player := e.player }
  else if e.kind = 6 then { zeroEv with kind := e.kind, was := e.was, now := e.now, player := e.player, other := e.other }
  else if e.kind = 7 then { zeroEv with kind := e.kind, now := e.now, player := e.player }
  else zeroEv
def PlainE (e : Ev) : Prop := (1 ≤ e.kind ∧ e.kind ≤ 7) ∧ keepE e = e
instance (e : Ev) : Decidable (PlainE e) := by unfold PlainE; infer_instance
def stepE (s : St) (e : Ev) (back : Bool) : Option St := if PlainE e then (if back then backE s e else doE s e) else none
end Go.Proofs.YtmhklnjmeoeanaaGreatDoor.D
namespace Go.Proofs.YtmhklnjmeoeanaaGreatDoor.D
open Go Go.RowKit
set_option linter.unusedVariables false
set_option linter.unusedSimpArgs false
theorem getD_lt {α : Type} {l : List α} {d : α} {i : Nat} (h : i < l.length) : l.getD i d = l[i] := by
  rw [List.getD_eq_getElem?_getD, List.getElem?_eq_getElem h]
  rfl
theorem getD_set_eq {α : Type} {l : List α} {d a : α} {i : Nat} (h : i < l.length) : (l.set i a).getD i d = a := by
  rw [List.getD_eq_getElem?_getD, List.getElem?_set_self h]
  rfl
theorem getD_set_ne {α : Type} {l : List α} {d a : α} {i j : Nat} (h : i ≠ j) : (l.set i a).getD j d = l.getD j d := by
  rw [List.getD_eq_getElem?_getD, List.getD_eq_getElem?_getD, List.getElem?_set_ne h]
theorem set_self {α : Type} {l : List α} {d : α} {i : Nat} (h : i < l.length) : l.set i (l.getD i d) = l := by
  rw [getD_lt h]
  exact List.set_getElem_self h
theorem mem_getD {α : Type} {l : List α} {d : α} {i : Nat} (h : i < l.length) : l.getD i d ∈ l := by
  rw [getD_lt h]
  exact List.getElem_mem h
theorem ext_getD {α : Type} {l m : List α} (d : α) (h : l.length = m.length) (hi : ∀ i, i < l.length → l.getD i d = m.getD i d) : l = m := by
  refine List.ext_getElem h fun i h1 h2 => ?_
  have := hi i h1
  rwa [getD_lt h1, getD_lt h2] at this
/-! ### One out, one in -/
theorem erase_count (x : Int) : ∀ (l : List Int) (i : Nat), i < l.length → (l.eraseIdx i).count x + (if l.getD i 0 = x then 1 else 0) = l.count x
  | a :: l, 0, _ => by
    rw [List.eraseIdx_cons_zero, List.count_cons]
    simp
  | a :: l, i + 1, h => by
    have ih := erase_count x l i (by simp at h; omega)
    rw [List.eraseIdx_cons_succ, List.count_cons, List.count_cons]
    have e : (a :: l).getD (i + 1) 0 = l.getD i 0 := rfl
    rw [e]
    omega
theorem insert_count (x a : Int) : ∀ (l : List Int) (i : Nat), i ≤ l.length → (l.insertIdx i a).count x = l.count x + (if a = x then 1 else 0)
  | l, 0, _ => by
    rw [List.insertIdx_zero, List.count_cons]
    simp
  | b :: l, i + 1, h => by
    have ih := insert_count x a l i (by simp at h; omega)
    rw [List.insertIdx_succ_cons, List.count_cons, List.count_cons, ih]
    omega
theorem erase_length {l : List Int} {i : Nat} (h : i < l.length) : (l.eraseIdx i).length = l.length - 1 := by
  rw [List.length_eraseIdx, if_pos h]
theorem insert_length {l : List Int} {a : Int} {i : Nat} (h : i ≤ l.length) : (l.insertIdx i a).length = l.length + 1 := by
  rw [List.length_insertIdx, if_pos h]
theorem erase_insert (a : Int) : ∀ (l : List Int) (i : Nat), i ≤ l.length → (l.insertIdx i a).eraseIdx i = l
  | l, 0, _ => by simp
  | b :: l, i + 1, h => by
    rw [List.insertIdx_succ_cons, List.eraseIdx_cons_succ, erase_insert a l i (by simp at h; omega)]
theorem insert_erase : ∀ (l : List Int) (i : Nat), i < l.length → (l.eraseIdx i).insertIdx i (l.getD i 0) = l
  | a :: l, 0, _ => by simp
  | a :: l, i + 1, h => by
    have e : (a :: l).getD (i + 1) 0 = l.getD i 0 := rfl
    rw [List.eraseIdx_cons_succ, List.insertIdx_succ_cons, e, insert_erase l i (by simp at h; omega)]
theorem insert_at (a : Int) : ∀ (l : List Int) (i : Nat), i ≤ l.length → (l.insertIdx i a).getD i 0 = a
  | l, 0, _ => by simp
  | b :: l, i + 1, h => by
    rw [List.insertIdx_succ_cons]
    exact insert_at a l i (by simp at h; omega)
theorem count_set (x : Int) : ∀ (zs : List (List Int)) (i : Nat) (l : List Int), i < zs.length → (zs.set i l).flatten.count x + (zs.getD i []).count x = zs.flatten.count x + l.count x
  | z :: zs, 0, l, _ => by
    rw [List.set_cons_zero, List.flatten_cons, List.flatten_cons, List.count_append, List.count_append]
    have e : (z :: zs).getD 0 [] = z := rfl
    rw [e]
    omega
  | z :: zs, i + 1, l, h => by
    have ih := count_set x zs i l (by simp at h; omega)
    rw [List.set_cons_succ, List.flatten_cons, List.flatten_cons, List.count_append, List.count_append]
    have e : (z :: zs).getD (i + 1) [] = zs.getD i [] := rfl
    rw [e]
    omega
/-! ### A card goes from a place to another one -/
structure MvOk (zs : List (List Int)) (card : Int) (s sa d da : Nat) : Prop where
  hs : s < zs.length
  hd : d < zs.length
  ne : ¬ (s = d ∧ sa = da)
  hsa : sa < (zs.getD s []).length
  at_ : (zs.getD s []).getD sa 0 = card
  hda : da ≤ (if s = d then (zs.getD d []).length - 1 else (zs.getD d []).length)
def mvZ (zs : List (List Int)) (card : Int) (s sa d da : Nat) : List (List Int) :=
  let z1 := zs.set s ((zs.getD s []).eraseIdx sa)
  z1.set d ((z1.getD d []).insertIdx da card)
theorem mv_same {zs : List (List Int)} {card : Int} {s sa da : Nat} (h : s < zs.length) : mvZ zs card s sa s da = zs.set s (((zs.getD s []).eraseIdx sa).insertIdx da card) := by
  unfold mvZ
  simp only
  rw [getD_set_eq h, List.set_set]
theorem mv_other {zs : List (List Int)} {card : Int} {s sa d da : Nat} (hn : s ≠ d) : mvZ zs card s sa d da = (zs.set s ((zs.getD s []).eraseIdx sa)).set d ((zs.getD d []).insertIdx da card) := by
  unfold mvZ
  simp only
  rw [getD_set_ne hn]
theorem mv_length (zs : List (List Int)) (card : Int) (s sa d da : Nat) : (mvZ zs card s sa d da).length = zs.length := by simp [mvZ]
theorem mv_count {zs : List (List Int)} {card : Int} {s sa d da : Nat} (h : MvOk zs card s sa d da) (x : Int) : (mvZ zs card s sa d da).flatten.count x = zs.flatten.count x := by
  have e1 := erase_count x _ _ h.hsa
  rw [h.at_] at e1
  by_cases hs : s = d
  · subst hs
    have hda := h.hda
    rw [if_pos rfl] at hda
    rw [mv_same h.hs]
    have c1 := count_set x zs s (((zs.getD s []).eraseIdx sa).insertIdx da card) h.hs
    have e2 := insert_count x card ((zs.getD s []).eraseIdx sa) da (by rw [erase_length h.hsa]; exact hda)
    omega
  · have hda := h.hda
    rw [if_neg hs] at hda
    rw [mv_other hs]
    have c1 := count_set x zs s ((zs.getD s []).eraseIdx sa) h.hs
    have c2 := count_set x (zs.set s ((zs.getD s []).eraseIdx sa)) d ((zs.getD d []).insertIdx da card) (by rw [List.length_set]; exact h.hd)
    rw [getD_set_ne hs] at c2
    have e2 := insert_count x card (zs.getD d []) da hda
    omega
theorem mv_perm {zs : List (List Int)} {card : Int} {s sa d da : Nat} (h : MvOk zs card s sa d da) : (mvZ zs card s sa d da).flatten.Perm zs.flatten := List.perm_iff_count.2 (mv_count h)
theorem mv_back {zs : List (List Int)} {card : Int} {s sa d da : Nat} (h : MvOk zs card s sa d da) : MvOk (mvZ zs card s sa d da) card d da s sa ∧ mvZ (mvZ zs card s sa d da) card d da s sa = zs := by
  by_cases hs : s = d
  · subst hs
    have hda := h.hda
    rw [if_pos rfl] at hda
    have hle : da ≤ ((zs.getD s []).eraseIdx sa).length := by rw [erase_length h.hsa]; exact hda
    have hpos := h.hsa
    rw [mv_same h.hs]
    have hl : s < (zs.set s (((zs.getD s []).eraseIdx sa).insertIdx da card)).length := by rw [List.length_set]; exact h.hs
    refine ⟨⟨hl, hl, fun e => h.ne ⟨rfl, e.2.symm⟩, ?_, ?_, ?_⟩, ?_⟩
    · rw [getD_set_eq h.hs, insert_length hle, erase_length h.hsa]
      omega
    · rw [getD_set_eq h.hs]
      exact insert_at card _ _ hle
    · rw [if_pos rfl, getD_set_eq h.hs, insert_length hle, erase_length h.hsa]
      omega
    · rw [mv_same hl, getD_set_eq h.hs, List.set_set, erase_insert card _ _ hle]
      have := insert_erase _ _ h.hsa
      rw [h.at_] at this
      rw [this]
      exact set_self h.hs
  · have hda := h.hda
    rw [if_neg hs] at hda
    have hd : d ≠ s := fun e => hs e.symm
    rw [mv_other hs]
    have hl1 : s < (zs.set s ((zs.getD s []).eraseIdx sa)).length := by rw [List.length_set]; exact h.hs
    have hl2 : d < (zs.set s ((zs.getD s []).eraseIdx sa)).length := by rw [List.length_set]; exact h.hd
    have gs : ((zs.set s ((zs.getD s []).eraseIdx sa)).set d ((zs.getD d []).insertIdx da card)).getD s [] = (zs.getD s []).eraseIdx sa := by rw [getD_set_ne hd, getD_set_eq h.hs]
    have gd : ((zs.set s ((zs.getD s []).eraseIdx sa)).set d ((zs.getD d []).insertIdx da card)).getD d [] = (zs.getD d []).insertIdx da card := getD_set_eq hl2
    refine ⟨⟨by rw [List.length_set]; exact hl2, by rw [List.length_set]; exact hl1, fun e => hd e.1, ?_, ?_, ?_⟩, ?_⟩
    · rw [gd, insert_length hda]
      omega
    · rw [gd]
      exact insert_at card _ _ hda
    · rw [if_neg hd, gs, erase_length h.hsa]
      have := h.hsa
      omega
    · rw [mv_other hd, gd, gs, erase_insert card _ _ hda, List.set_set]
      have := insert_erase _ _ h.hsa
      rw [h.at_] at this
      rw [this, List.set_comm _ _ hs, List.set_set]
      rw [← List.set_comm _ _ hs, set_self h.hs, set_self h.hd]
theorem nodup_getD {l : List Int} (h : l.Nodup) {i j : Nat} (hi : i < l.length) (hj : j < l.length) (e : l.getD i 0 = l.getD j 0) : i = j := by
  rw [getD_lt hi, getD_lt hj] at e
  exact (List.getElem_inj h).1 e
theorem nodup_zone {zs : List (List Int)} (h : zs.flatten.Nodup) {i : Nat} (hi : i < zs.length) : (zs.getD i []).Nodup := by
  exact h.sublist (List.sublist_flatten_of_mem (mem_getD hi))
theorem mv_ne {zs : List (List Int)} {card : Int} {s sa d da : Nat} (h : MvOk zs card s sa d da) (hn : zs.flatten.Nodup) : mvZ zs card s sa d da ≠ zs := by
  intro e
  have hb := (mv_back h).1
  rw [e] at hb
  by_cases hs : s = d
  · subst hs
    have hda := h.hda
    have hpos := h.hsa
    rw [if_pos rfl] at hda
    have := nodup_getD (nodup_zone hn h.hs) h.hsa hb.hsa (by rw [h.at_, hb.at_])
    exact h.ne ⟨rfl, this⟩
  · have hl := congrArg (fun z : List (List Int) => (z.getD s []).length) e
    rw [mv_other hs, getD_set_ne (fun e => hs e.symm), getD_set_eq h.hs, erase_length h.hsa] at hl
    have := h.hsa
    omega
/-! ### Orders -/
theorem nodup_perm : ∀ (l m : List Int), l.Nodup → (∀ x ∈ l, x ∈ m) → m.length ≤ l.length → l.Perm m
  | [], m, _, _, h => by
    obtain rfl : m = [] := List.eq_nil_of_length_eq_zero (by simpa using h)
    exact List.Perm.refl _
  | a :: l, m, hn, hs, h => by
    have ha := hs a (by simp)
    obtain ⟨h1, h2⟩ := List.nodup_cons.1 hn
    have hl := List.length_erase_of_mem ha
    have ih := nodup_perm l (m.erase a) h2 (fun x hx => (List.mem_erase_of_ne (fun e => h1 (by rw [← e]; exact hx))).2 (hs x (by simp [hx]))) (by simp at h; omega)
    exact (ih.cons a).trans (List.perm_cons_erase ha).symm
theorem order_perm {l : List Int} {n : Nat} (h : IsOrder l n) : l.Perm ((List.range n).map Int.ofNat) := by
  obtain ⟨hl, hr, hn⟩ := h
  refine nodup_perm _ _ hn (fun x hx => ?_) (by simp [hl])
  obtain ⟨h0, h1⟩ := hr x hx
  exact List.mem_map.2 ⟨x.toNat, List.mem_range.2 (by omega), by simp; omega⟩
theorem range_getD (l : List Int) : (List.range l.length).map (fun j => l.getD j 0) = l := by
  refine ext_getD 0 (by simp) fun i hi => ?_
  have hi2 : i < l.length := by simpa using hi
  rw [getD_lt hi]
  simp [getD_lt hi2]
theorem shufF_perm {order l : List Int} (h : IsOrder order l.length) : (shufF order l).Perm l := by
  unfold shufF
  have := (order_perm h).map (fun k : Int => l.getD k.toNat 0)
  rw [List.map_map] at this
  refine this.trans (List.Perm.of_eq ?_)
  conv => rhs; rw [← range_getD l]
  rfl
theorem shufF_length (order l : List Int) : (shufF order l).length = order.length := by simp [shufF]
theorem shufB_length (order l : List Int) : (shufB order l).length = order.length := by simp [shufB]
theorem shufF_at {order l : List Int} {i : Nat} (h : i < order.length) : (shufF order l).getD i 0 = l.getD (order.getD i 0).toNat 0 := by
  rw [getD_lt (by rw [shufF_length]; exact h), getD_lt h]
  simp [shufF]
theorem shufB_at {order l : List Int} {j : Nat} (h : j < order.length) : (shufB order l).getD j 0 = l.getD (order.idxOf (j : Int)) 0 := by
  rw [getD_lt (by rw [shufB_length]; exact h)]
  simp [shufB]
theorem order_idx {order : List Int} {n : Nat} (h : IsOrder order n) {i : Nat} (hi : i < n) : order.idxOf (order.getD i 0) = i := by
  have hl := h.1
  rw [getD_lt (by omega)]
  exact List.Nodup.idxOf_getElem h.2.2 i (by omega)
theorem order_mem {order : List Int} {n : Nat} (h : IsOrder order n) {j : Nat} (hj : j < n) : (j : Int) ∈ order := by
  rw [(order_perm h).mem_iff]
  exact List.mem_map.2 ⟨j, List.mem_range.2 hj, rfl⟩
theorem order_at {order : List Int} {n : Nat} (h : IsOrder order n) {j : Nat} (hj : j < n) : order.idxOf (j : Int) < n ∧ order.getD (order.idxOf (j : Int)) 0 = j := by
  have hm := order_mem h hj
  have hi := List.idxOf_lt_length_of_mem hm
  refine ⟨by rw [← h.1]; exact hi, ?_⟩
  rw [getD_lt hi]
  exact List.getElem_idxOf hi
theorem shuf_fb {order l : List Int} (h : IsOrder order l.length) : shufF order (shufB order l) = l := by
  have hl := h.1
  refine ext_getD 0 (by rw [shufF_length, hl]) fun i hi => ?_
  rw [shufF_length] at hi
  obtain ⟨h0, h1⟩ := h.2.1 _ (mem_getD (d := 0) hi)
  rw [shufF_at hi, shufB_at (by omega)]
  have e : (((order.getD i 0).toNat : Nat) : Int) = order.getD i 0 := by omega
  rw [e, order_idx h (by omega)]
theorem shuf_bf {order l : List Int} (h : IsOrder order l.length) : shufB order (shufF order l) = l := by
  have hl := h.1
  refine ext_getD 0 (by rw [shufB_length, hl]) fun j hj => ?_
  rw [shufB_length] at hj
  obtain ⟨h1, h2⟩ := order_at h (j := j) (by omega)
  rw [shufB_at hj, shufF_at (by omega), h2]
  simp
theorem shufB_perm {order l : List Int} (h : IsOrder order l.length) : (shufB order l).Perm l := by
  have h2 : IsOrder order (shufB order l).length := by rw [shufB_length, h.1]; exact h
  have := shufF_perm h2
  rw [shuf_fb h] at this
  exact this.symm
theorem shuf_ne {order l : List Int} (h : IsOrder order l.length) (hn : l.Nodup) (hr : ¬ Rises order) : shufF order l ≠ l := by
  intro e
  refine hr (ext_getD 0 (by simp) fun i hi => ?_)
  have hl := h.1
  obtain ⟨h0, h1⟩ := h.2.1 _ (mem_getD (d := 0) hi)
  have := shufF_at (l := l) hi
  rw [e] at this
  have e2 := nodup_getD hn (by omega) (by omega) this
  rw [getD_lt (l := (List.range order.length).map Int.ofNat) (by simpa using hi), List.getElem_map, List.getElem_range]
  show _ = (i : Int)
  omega
theorem set_perm {zs : List (List Int)} {i : Nat} {l : List Int} (hi : i < zs.length) (h : l.Perm (zs.getD i [])) : (zs.set i l).flatten.Perm zs.flatten := by
  refine List.perm_iff_count.2 fun x => ?_
  have := count_set x zs i l hi
  have e := h.count_eq x
  omega
end Go.Proofs.YtmhklnjmeoeanaaGreatDoor.D
namespace Go.Proofs.YtmhklnjmeoeanaaGreatDoor.G
open Go Go.RowKit
set_option linter.unusedVariables false
set_option linter.unusedSimpArgs false
/-! ### The world behind a call -/
theorem bl_alloc {a w : World} (h : Below a.heap.size a w) (o : Obj) : Below a.heap.size a (w.alloc o) := h.alloc h.size o
theorem bl_trans {a w w' : World} (h : Below a.heap.size a w) (k : Below w.heap.size w w') : Below a.heap.size a w' := h.trans (k.mono h.size)
theorem bl_drewN {a w : World} {B : Nat} (h : Below B a w) (n : Nat) : Below B a (w.drewN n) := ⟨h.os, h.tape, h.output, h.size, h.block⟩
theorem bl_set {a w : World} (h : Below a.heap.size a w) {p : Addr} (hp : a.heap.size ≤ p.block) (u : Value) : Below a.heap.size a (w.setCell p u) := h.setCell hp u
/-- All old cells and marks read as before. -/
theorem bl_cells {W w1 : World} (hb : Below W.heap.size W w1) : (∀ b o, b < W.heap.size → w1.cell? ⟨b, o, none⟩ = W.cell? ⟨b, o, none⟩) ∧ (∀ b o, b < W.heap.size → w1.frozen? ⟨b, o, none⟩ = W.frozen? ⟨b, o, none⟩) :=
  ⟨fun b o h => hb.cell (p := ⟨b, o, none⟩) h, fun b o h => hb.frozen (p := ⟨b, o, none⟩) h⟩
/-! ### Cells that read as a list -/
def RdV (w : World) (b off : Nat) (xs : List Value) : Prop := b < w.heap.size ∧ ∀ j, j < xs.length → w.cell? ⟨b, off + j, none⟩ = some (xs.getD j undef)
theorem RdV.keep {w w' : World} {b off : Nat} {xs : List Value} (h : RdV w b off xs) (hs : b < w'.heap.size) (hb : w'.heap[b]? = w.heap[b]?) : RdV w' b off xs :=
  ⟨hs, fun j hj => (World.cell?_of_block (w := w) (a := ⟨b, off + j, none⟩) hb).trans (h.2 j hj)⟩
theorem RdV.below {w w' : World} {b off : Nat} {xs : List Value} (h : RdV w b off xs) (hb : Below w.heap.size w w') : RdV w' b off xs :=
  h.keep (Nat.lt_of_lt_of_le h.1 hb.size) (hb.block b h.1)
/-- A slice's address, its length, its elements' size: what it reads as. -/
def RdS (w : World) (A : Option Addr) (sz n : Nat) (xs : List Value) : Prop := xs.length = n * sz ∧ (0 < n → ∃ b off, A = some ⟨b, off, none⟩ ∧ RdV w b off xs)
theorem RdS.below {w w' : World} {A : Option Addr} {sz n : Nat} {xs : List Value} (h : RdS w A sz n xs) (hb : Below w.heap.size w w') : RdS w' A sz n xs :=
  ⟨h.1, fun hn => by obtain ⟨b, off, e, hr⟩ := h.2 hn; exact ⟨b, off, e, hr.below hb⟩⟩
theorem RdS.nil {w : World} {sz : Nat} (A : Option Addr) : RdS w A sz 0 [] := ⟨by simp, fun h => absurd h (by omega)⟩
theorem RdS.of_rdV {w : World} {b off sz n : Nat} {xs : List Value} (h : RdV w b off xs) (hn : xs.length = n * sz) : RdS w (some ⟨b, off, none⟩) sz n xs := ⟨hn, fun _ => ⟨b, off, rfl, h⟩⟩
theorem RdS.of_own {w : World} {base : Nat} {e : TypeId} {sz n c : Nat} {A : Option Addr} {xs : List Value} (h : w.ownsRow base e sz (.slice A n c) n xs) : RdS w A sz n xs := by
  refine ⟨h.1, fun hn => ?_⟩
  rcases h.2 with ⟨hv, h0⟩ | ⟨g, cap, cur, hv, hb, hgg, hnc, hc, hcs, ht⟩
  · omega
  · simp only [Value.slice.injEq] at hv
    obtain ⟨rfl, _, _⟩ := hv
    refine ⟨g, 0, rfl, (Array.getElem?_eq_some_iff.1 hgg).1, fun j hj => ?_⟩
    have h1 := h.1
    rw [Nat.zero_add, cell_of_row _ _ j _ e (0, 0) hgg]
    have h2 : (cur.toList.take (n * sz))[j]? = some (xs.getD j undef) := by rw [ht, List.getD_eq_getElem?_getD, List.getElem?_eq_getElem hj]; rfl
    rw [List.getElem?_take] at h2
    split at h2
    · simpa using h2
    · cases h2
theorem own_shape {w : World} {base : Nat} {e : TypeId} {size : Nat} {v : Value} {n : Nat} {xs : List Value} (h : w.ownsRow base e size v n xs) : ∃ ao cap, v = .slice ao n cap := by
  rcases h.2 with ⟨rfl, rfl⟩ | ⟨g, cap, cur, rfl, _⟩
  · exact ⟨_, _, rfl⟩
  · exact ⟨_, _, rfl⟩
theorem own_below {w w' : World} {base : Nat} {e : TypeId} {size : Nat} {v : Value} {n : Nat} {xs : List Value} (h : w.ownsRow base e size v n xs) (hb : Below w.heap.size w w') : w'.ownsRow base e size v n xs :=
  h.kept (row := none) ⟨hb.os, hb.tape, hb.output, hb.size, fun k hk _ => hb.block k hk⟩ (by cases hv : v.ownBlock <;> simp)
theorem own_ge {w : World} {base base' : Nat} {e : TypeId} {size : Nat} {v : Value} {n : Nat} {xs : List Value} (h : w.ownsRow base e size v n xs) (hb : base' ≤ base) : w.ownsRow base' e size v n xs :=
  ⟨h.1, h.2.imp id fun ⟨g, cap, cur, e1, h2, r⟩ => ⟨g, cap, cur, e1, Nat.le_trans hb h2, r⟩⟩
/-! ### A block known whole -/
def Blk (w : World) (g : Nat) (t : TypeId) (cs : Array Value) : Prop := w.heap[g]? = some (.cells cs t (0, 0))
section
variable {w w' : World} {g : Nat} {t : TypeId} {cs : Array Value}
theorem Blk.lt (h : Blk w g t cs) : g < w.heap.size := (Array.getElem?_eq_some_iff.1 h).1
theorem Blk.cell (h : Blk w g t cs) (i : Nat) : w.cell? ⟨g, i, none⟩ = cs[i]? := cell_of_row w g i cs t (0, 0) h
theorem Blk.frozen (h : Blk w g t cs) (i : Nat) : w.frozen? ⟨g, i, none⟩ = false := by
  unfold Blk at h
  simp [World.frozen?, h]
theorem Blk.new (w : World) (t : TypeId) (cs : Array Value) : Blk (w.alloc (.cells cs t)) w.heap.size t cs := heap_alloc_new w _
theorem Blk.same (h : Blk w g t cs) (hb : w'.heap[g]? = w.heap[g]?) : Blk w' g t cs := hb.trans h
theorem Blk.below {B : Nat} (h : Blk w g t cs) (hb : Below B w w') (hg : g < B) : Blk w' g t cs := (hb.block g hg).trans h
theorem Blk.put (h : Blk w g t cs) (i : Nat) (u : Value) : Blk (w.setCell ⟨g, i, none⟩ u) g t (cs.setIfInBounds i u) := by
  unfold Blk at h ⊢
  simp [World.setCell, Array.getElem?_modify, h]
theorem Blk.own {base sz n cap : Nat} (h : Blk w g t cs) (hb : base ≤ g) (hn : n ≤ cap) (hc : cap ≤ maxLen) (hs : cs.size = cap * sz) : w.ownsRow base t sz (.slice (some ⟨g, 0, none⟩) n cap) n (cs.toList.take (n * sz)) :=
  ⟨by rw [List.length_take, Array.length_toList, hs]; exact Nat.min_eq_left (Nat.mul_le_mul_right _ hn), .inr ⟨g, cap, cs, rfl, hb, h, hn, hc, hs, rfl⟩⟩
theorem Blk.rdV (h : Blk w g t cs) : RdV w g 0 cs.toList :=
  ⟨h.lt, fun j hj => by rw [Nat.zero_add, h.cell, List.getD_eq_getElem?_getD, List.getElem?_eq_getElem hj]; simp at hj; simp [hj]⟩
end
/-! ### Only blocks of one element type have changed -/
structure Only (E : TypeId) (B : Nat) (w w' : World) : Prop where
  below : Below B w w'
  other : ∀ (k : Nat) (cs : Array Value) (t : TypeId) (fr : Nat × Nat), w.heap[k]? = some (Obj.cells cs t fr) → t ≠ E → w'.heap[k]? = some (Obj.cells cs t fr)
section
variable {E : TypeId} {B : Nat} {w w1 w' : World}
theorem Only.refl (E : TypeId) (B : Nat) (w : World) : Only E B w w := ⟨Below.refl _ _, fun _ _ _ _ h _ => h⟩
theorem Only.trans (h : Only E B w w1) (k : Only E B w1 w') : Only E B w w' := ⟨h.below.trans k.below, fun g cs t fr hg ht => k.other g cs t fr (h.other g cs t fr hg ht) ht⟩
theorem Only.mono {B' : Nat} (h : Only E B w w') (hB : B' ≤ B) : Only E B' w w' := ⟨h.below.mono hB, h.other⟩
theorem Only.of_below (h : Below w.heap.size w w') (hB : B ≤ w.heap.size) : Only E B w w' :=
  ⟨h.mono hB, fun k cs t fr hk _ => (h.block k (Array.getElem?_eq_some_iff.1 hk).1).trans hk⟩
theorem Only.later (h : Only E B w w1) (hB : B ≤ w1.heap.size) (hb : Below w1.heap.size w1 w') : Only E B w w' := h.trans (Only.of_below hb hB)
theorem Only.drewN (h : Only E B w w1) (n : Nat) : Only E B w (w1.drewN n) := ⟨bl_drewN h.below n, h.other⟩
theorem Only.alloc (h : Only E B w w1) (hB : B ≤ w1.heap.size) (o : Obj) : Only E B w (w1.alloc o) :=
  h.trans (Only.of_below (bl_alloc (Below.refl _ _) o) hB)
theorem Only.grown {row : Option Nat} (h : Only E B w w1) (hg : w1.grownBy w' row) (hB : B ≤ w1.heap.size) (hr : ∀ g, row = some g → B ≤ g ∧ ∃ cs, w1.heap[g]? = some (.cells cs E (0, 0))) : Only E B w w' := by
  refine h.trans ⟨(Below.refl _ _).grown hg hB fun k hk => (hr k hk).1, fun k cs t fr hk ht => ?_⟩
  by_cases hrow : some k = row
  · obtain ⟨_, cs', hc⟩ := hr k hrow.symm
    rw [hk] at hc
    simp only [Option.some.injEq, Obj.cells.injEq] at hc
    exact absurd hc.2.1 ht
  · exact (hg.block k (Array.getElem?_eq_some_iff.1 hk).1 hrow).trans hk
theorem Only.grown_new {row : Option Nat} (h : Only E B w w1) (hg : w1.grownBy w' row) (hB : B ≤ w.heap.size) (hr : ∀ g, row = some g → w.heap.size ≤ g) : Only E B w w' :=
  ⟨h.below.grown hg (Nat.le_trans hB h.below.size) fun k hk => Nat.le_trans hB (hr k hk), fun k cs t fr hk ht => by
    have hlt := (Array.getElem?_eq_some_iff.1 hk).1
    exact (hg.block k (Nat.lt_of_lt_of_le hlt h.below.size) fun e => by have := hr k e.symm; omega).trans (h.other k cs t fr hk ht)⟩
theorem cells_new (X : World) (l : List Value) (t : TypeId) (n : Nat) (hn : n = X.heap.size) : ∀ j u, l[j]? = some u → (X.alloc (.cells l.toArray t)).cell? ((⟨n, 0, none⟩ : Addr).add j) = some u := by
  intro j u hu
  subst hn
  rw [Addr.add_lit, Nat.zero_add, cell_of_row _ _ j l.toArray t (0, 0) (heap_alloc_new X _)]
  simpa using hu
theorem Only.set (h : Only E B w w1) {p : Addr} (hp : B ≤ p.block) {cs : Array Value} (hc : w1.heap[p.block]? = some (.cells cs E (0, 0))) (u : Value) : Only E B w (w1.setCell p u) := by
  refine h.trans ⟨(Below.refl _ _).setCell hp u, fun k cs' t fr hk ht => ?_⟩
  by_cases hkp : k = p.block
  · subst hkp
    rw [hk] at hc
    simp only [Option.some.injEq, Obj.cells.injEq] at hc
    exact absurd hc.2.1 ht
  · exact (Below.heap_setCell w1 p u k hkp).trans hk
theorem Only.blk (h : Only E B w w') {g : Nat} {t : TypeId} {cs : Array Value} (hb : Blk w g t cs) (ht : t ≠ E) : Blk w' g t cs := h.other g cs t (0, 0) hb ht
theorem Only.own (h : Only E B w w') {base : Nat} {e : TypeId} {sz n : Nat} {v : Value} {xs : List Value} (ho : w.ownsRow base e sz v n xs) (he : e ≠ E) : w'.ownsRow base e sz v n xs := by
  refine ⟨ho.1, ho.2.imp id fun ⟨g, cap, cur, e1, h2, h3, r⟩ => ⟨g, cap, cur, e1, h2, h.other g cur e (0, 0) h3 he, r⟩⟩
end
end Go.Proofs.YtmhklnjmeoeanaaGreatDoor.G
namespace Go.Proofs.YtmhklnjmeoeanaaGreatDoor.G
open Go
set_option linter.unusedVariables false
set_option linter.unusedSimpArgs false
/-- The block of a row that is written to keeps its first cells. -/
def KeepsHead (w w' : World) (row : Option Nat) (e : TypeId) (k : Nat) : Prop :=
  ∀ g, row = some g → ∀ cur, w.heap[g]? = some (.cells cur e (0, 0)) → ∃ cur', w'.heap[g]? = some (.cells cur' e (0, 0)) ∧ cur'.size = cur.size ∧ cur'.toList.take k = cur.toList.take k
theorem KeepsHead.of_same {w w' : World} {row : Option Nat} {e : TypeId} {k : Nat} (h : ∀ g, row = some g → g < w.heap.size → w'.heap[g]? = w.heap[g]?) : KeepsHead w w' row e k := by
  intro g hg cur hc
  exact ⟨cur, (h g hg (Array.getElem?_eq_some_iff.1 hc).1).trans hc, rfl, rfl⟩
/-- What an append gives beside the new row. -/
structure Went (w w' : World) (e : TypeId) (v v' : Value) (k : Nat) : Prop where
  by_ : w.grownBy w' v.ownBlock
  head : KeepsHead w w' v.ownBlock e k
  new : ∀ g, v'.ownBlock = some g → v.ownBlock = some g ∨ w.heap.size ≤ g
section
variable {P : Program} (w : World)
theorem run_append_keep (base : Nat) (t ty e : TypeId) (i : TypeInfo) (z : Value) (size bytes : Nat) (ht : P.underlying t = some (.slice e)) (hi : P.info? e = some i) (hz : i.zero = some z)
    (hsize : i.size = size) (hby : i.bytes = bytes) (hzs : z.cells.size = size) (hsz : 0 < size)
    (v : Value) (n : Nat) (xs : List Value) (hown : w.ownsRow base e size v n xs)
    (a : Addr) (m c : Nat) (news : List Value) (hl : news.length = m * size) (hnews : ∀ j u, news[j]? = some u → w.cell? (a.add j) = some u) (h1 : ∀ u ∈ news, u.oneCell' = true)
    (h63 : n + m ≤ maxLen) (hbytes : (n + m) * bytes ≤ 140737488355328) (hbase : base ≤ w.heap.size) :
    ∃ v' w', (Builtin.append_ #[t, t] ty #[v, .slice (some a) m c]).run P w = .ok v' w' ∧ w'.ownsRow base e size v' (n + m) (xs ++ news) ∧ Went w w' e v v' (n * size) := by
  subst hsize
  subst hby
  have hsmall : n + m ≤ 9223372036854775807 := by simp only [maxLen] at h63; omega
  have hlen : (xs ++ news).length = (n + m) * i.size := by rw [List.length_append, hown.1, hl, Nat.add_mul]
  have grown : ∀ (old : Nat), old < n + m → ∀ (row : Option Nat),
      (w.drew.alloc (.cells (xs.toArray ++ news.toArray ++ Builtin.zeroCells z.cells (grownCap w (n + m) old e - (n + m))) e)).ownsRow base e i.size
        (.slice (some ⟨w.heap.size, 0, none⟩) (n + m) (grownCap w (n + m) old e)) (n + m) (xs ++ news) ∧
      w.grownBy (w.drew.alloc (.cells (xs.toArray ++ news.toArray ++ Builtin.zeroCells z.cells (grownCap w (n + m) old e - (n + m))) e)) row ∧
      KeepsHead w (w.drew.alloc (.cells (xs.toArray ++ news.toArray ++ Builtin.zeroCells z.cells (grownCap w (n + m) old e - (n + m))) e)) row e (n * i.size) := by
    intro old ho row
    have hge := grownCap_ge w (n + m) old e
    have hcm : grownCap w (n + m) old e ≤ maxLen := grownCap_le_maxLen w (n + m) old e h63
    refine ⟨⟨hlen, .inr ⟨w.heap.size, _, _, rfl, hbase, heap_alloc_new w.drew _, hge, hcm, ?_, ?_⟩⟩, ⟨rfl, rfl, rfl, by simp, fun k hk _ => RowKit.Below.heap_alloc w.drew _ k hk⟩, KeepsHead.of_same fun g _ hg => RowKit.Below.heap_alloc w.drew _ g hg⟩
    · simp only [Array.size_append, List.size_toArray, size_zeroCells, hzs, hown.1, hl, ← Nat.add_mul]
      congr 1
      omega
    · simp only [Array.toList_append, List.append_assoc]
      rw [← List.append_assoc, ← hlen]
      exact List.take_left
  rcases hown.2 with ⟨rfl, rfl⟩ | ⟨g, cap, cur, rfl, hbg, hg, hnc, hcm, hcs, htake⟩
  · have hx : xs = [] := List.eq_nil_of_length_eq_zero (by simpa using hown.1)
    subst hx
    by_cases hm : m = 0
    · subst hm
      have hn : news = [] := List.eq_nil_of_length_eq_zero (by simpa using hl)
      subst hn
      refine ⟨.slice none 0 0, w, ?_, World.ownsRow_nil w base e i.size, ⟨⟨rfl, rfl, rfl, Nat.le_refl _, fun _ _ _ => rfl⟩, KeepsHead.of_same fun _ _ _ => rfl, fun g h => .inl h⟩⟩
      simp [Builtin.append_, run_underlying ht, sizeOf, typeInfo, hi, Builtin.lenOf, Builtin.firstCells, loadCells, loadCellsFrom]
    · have hr := run_append_nil (P := P) w t ty e i z ht hi hz a m c news hl hnews (by omega) (by omega) (by have hb := hbytes; simp only [Nat.zero_add] at hb; omega)
      have hgr := grown 0 (by omega) (Value.ownBlock (.slice none 0 0))
      simp only [Nat.zero_add, List.nil_append, Array.empty_append] at hgr ⊢
      refine ⟨_, _, hr, hgr.1, ⟨hgr.2.1, hgr.2.2, fun g h => .inr ?_⟩⟩
      simp [Value.ownBlock] at h
      omega
  · by_cases hroom : n + m ≤ cap
    · have hfit : n * i.size + news.length ≤ cur.size := by rw [hl, hcs, ← Nat.add_mul]; exact Nat.mul_le_mul_right _ hroom
      have hr := run_append_room (P := P) w t ty e i ht hi g n cap cur hg a m c news hl hnews h1 hroom hfit
      refine ⟨_, _, hr, ⟨hlen, .inr ⟨g, cap, _, rfl, hbg, setRow_heap w g cur _ e _ hg, hroom, hcm, ?_, ?_⟩⟩, ⟨⟨rfl, rfl, rfl, by simp, fun k _ hk => setRow_other w g k _ (fun e => hk (by simp [Value.ownBlock, e]))⟩, ?_, fun g h => .inl h⟩⟩
      · simp only [List.size_toArray, List.length_append, List.length_take, List.length_drop, Array.length_toList]
        omega
      · rw [htake, ← hlen]
        exact List.take_left
      · intro g' hg' cur' hc'
        simp only [Value.ownBlock, Option.some.injEq] at hg'
        subst hg'
        rw [hg] at hc'
        simp only [Option.some.injEq, Obj.cells.injEq, and_true] at hc'
        obtain rfl := hc'
        refine ⟨_, setRow_heap w g cur _ e _ hg, ?_, ?_⟩
        · simp only [List.size_toArray, List.length_append, List.length_take, List.length_drop, Array.length_toList]
          omega
        · have h2 : (cur.toList.take (n * i.size)).length = n * i.size := by rw [List.length_take, Array.length_toList]; omega
          rw [List.append_assoc]
          conv => lhs; arg 1; rw [← h2]
          exact List.take_left
    · have holds : ∀ j u, xs[j]? = some u → w.cell? ((⟨g, 0, none⟩ : Addr).add j) = some u := hown.cells (g := g) rfl
      have hr := run_append_grow (P := P) w t ty e i z ht hi hz ⟨g, 0, none⟩ n cap xs hown.1 holds a m c news hl hnews (by omega) (by omega) (growslice_fits (by omega) hbytes)
      have hgr := grown cap (by omega) (Value.ownBlock (.slice (some ⟨g, 0, none⟩) n cap))
      refine ⟨_, _, hr, hgr.1, ⟨hgr.2.1, hgr.2.2, fun g h => .inr ?_⟩⟩
      simp [Value.ownBlock] at h
      omega
theorem wpList_append_keep {ops : Array Oper} {rest : List Oper} {o : Oper} {a : Act} {Q : Exit → Act → World → Prop} (hgd : o.guard = none) (s x : Operand) (t : TypeId)
    (ho : o.op = .call { callee := .builtin .append, args := #[s, x], argTypes := #[t, t] })
    (base : Nat) (e : TypeId) (i : TypeInfo) (z : Value) (size bytes : Nat) (ht : P.underlying t = some (.slice e)) (hi : P.info? e = some i) (hz : i.zero = some z)
    (hsize : i.size = size) (hby : i.bytes = bytes) (hzs : z.cells.size = size) (hsz : 0 < size)
    (v : Value) (n : Nat) (xs : List Value) (hs : a.eval s = v) (hown : w.ownsRow base e size v n xs)
    (ad : Addr) (m c : Nat) (news : List Value) (hx : a.eval x = .slice (some ad) m c) (hl : news.length = m * size) (hnews : ∀ j u, news[j]? = some u → w.cell? (ad.add j) = some u) (h1 : ∀ u ∈ news, u.oneCell' = true)
    (h63 : n + m ≤ maxLen) (hbytes : (n + m) * bytes ≤ 140737488355328) (hbase : base ≤ w.heap.size)
    (h : ∀ v' w', w'.ownsRow base e size v' (n + m) (xs ++ news) → Went w w' e v v' (n * size) → wpList P ops Q rest (a.put o.dst v') w') : wpList P ops Q (o :: rest) a w := by
  refine wpList_plain hgd fun K hK => ?_
  obtain ⟨v', w', hr, h2, h3⟩ := run_append_keep (P := P) w base t o.type e i z size bytes ht hi hz hsize hby hzs hsz v n xs hown ad m c news hl hnews h1 h63 hbytes hbase
  unfold Oper.wp execOp
  simp only [ho, resolve, invoke, builtin, Sem.run_bind, Sem.run_pure, Result.andThen_ok, List.map_toArray, List.map_cons, List.map_nil, hs, hx, hr]
  exact hK _ _ (h v' w' h2 h3)
end

/-! ### A family of rows: rows of different tags share no block -/
structure Rw where
  tag : Nat
  v : Value
  n : Nat
  xs : List Value
def Fam (w : World) (base : Nat) (e : TypeId) (size : Nat) (R : Rw → Prop) : Prop :=
  (∀ r, R r → w.ownsRow base e size r.v r.n r.xs) ∧ ∀ r, R r → ∀ r', R r' → r.tag ≠ r'.tag → r.v.ownBlock = none ∨ r.v.ownBlock ≠ r'.v.ownBlock
section
variable {w w' : World} {base : Nat} {e : TypeId} {size : Nat} {R : Rw → Prop}
theorem Fam.sub {R' : Rw → Prop} (h : Fam w base e size R) (hs : ∀ r, R' r → R r) : Fam w base e size R' :=
  ⟨fun r hr => h.1 r (hs r hr), fun r hr r' hr' => h.2 r (hs r hr) r' (hs r' hr')⟩
theorem Fam.kept {row : Option Nat} (h : Fam w base e size R) (hg : w.grownBy w' row) (hne : ∀ r, R r → r.v.ownBlock = none ∨ r.v.ownBlock ≠ row) : Fam w' base e size R :=
  ⟨fun r hr => (h.1 r hr).kept hg (hne r hr), h.2⟩
theorem ownsRow_head {v : Value} {n : Nat} {xs : List Value} {row : Option Nat} {k : Nat} (h : w.ownsRow base e size v n xs) (hv : v.ownBlock = row) (hk : KeepsHead w w' row e k) (hn : n * size ≤ k) : w'.ownsRow base e size v n xs := by
  refine ⟨h.1, ?_⟩
  rcases h.2 with hn | ⟨g, cap, cur, rfl, hb, hgg, hnc, hcm, hcs, ht⟩
  · exact .inl hn
  · obtain ⟨cur', h1, h2, h3⟩ := hk g hv.symm cur hgg
    refine .inr ⟨g, cap, cur', rfl, hb, h1, hnc, hcm, h2.trans hcs, ?_⟩
    rw [← ht]
    have h4 := congrArg (List.take (n * size)) h3
    rwa [List.take_take, List.take_take, Nat.min_eq_left hn] at h4
theorem ownsRow.block_e {v : Value} {n : Nat} {xs : List Value} (h : w.ownsRow base e size v n xs) {g : Nat} (hg : v.ownBlock = some g) : ∃ cur, w.heap[g]? = some (.cells cur e (0, 0)) := by
  rcases h.2 with ⟨rfl, _⟩ | ⟨g', cap, cur, rfl, hb, hgg, _⟩
  · cases hg
  · simp only [Value.ownBlock, Option.some.injEq] at hg
    subst hg
    exact ⟨cur, hgg⟩
/-- Rows of different element types lie in different blocks. -/
theorem ownsRow.apart {v v2 : Value} {n n2 : Nat} {xs xs2 : List Value} {e2 : TypeId} {base2 size2 : Nat} (h : w.ownsRow base e size v n xs) (h2 : w.ownsRow base2 e2 size2 v2 n2 xs2) (he : e ≠ e2) : v.ownBlock = none ∨ v.ownBlock ≠ v2.ownBlock := by
  cases hv : v.ownBlock with
  | none => exact .inl rfl
  | some g =>
    refine .inr fun hh => ?_
    obtain ⟨c1, h3⟩ := ownsRow.block_e h hv
    obtain ⟨c2, h4⟩ := ownsRow.block_e h2 hh.symm
    rw [h3] at h4
    simp only [Option.some.injEq, Obj.cells.injEq] at h4
    exact he h4.2.1
theorem ownsRow.ge {v : Value} {n : Nat} {xs : List Value} (h : w.ownsRow base e size v n xs) {b2 : Nat} (hb : ∀ g, v.ownBlock = some g → b2 ≤ g) : w.ownsRow b2 e size v n xs := by
  refine ⟨h.1, ?_⟩
  rcases h.2 with hn | ⟨g, cap, cur, rfl, _, r⟩
  · exact .inl hn
  · exact .inr ⟨g, cap, cur, rfl, hb g rfl, r⟩
theorem Fam.append {r : Rw} (h : Fam w base e size R) (hr : R r) (hmax : ∀ r', R r' → r'.tag = r.tag → r'.n ≤ r.n) {v' : Value} {n' : Nat} {xs' : List Value}
    (hown : w'.ownsRow base e size v' n' xs') (hw : Went w w' e r.v v' (r.n * size)) : Fam w' base e size (fun s => s = ⟨r.tag, v', n', xs'⟩ ∨ R s) := by
  refine ⟨fun s hs => ?_, ?_⟩
  · rcases hs with rfl | hs
    · exact hown
    · by_cases hb : s.v.ownBlock = none ∨ s.v.ownBlock ≠ r.v.ownBlock
      · exact (h.1 s hs).kept hw.by_ hb
      · have hb' : s.v.ownBlock = r.v.ownBlock := by
          by_cases hx : s.v.ownBlock = r.v.ownBlock
          · exact hx
          · exact absurd (.inr hx) hb
        have ht : s.tag = r.tag := by
          by_cases hx : s.tag = r.tag
          · exact hx
          · exact absurd (h.2 s hs r hr hx) hb
        exact ownsRow_head (h.1 s hs) hb' hw.head (Nat.mul_le_mul_right _ (hmax s hs ht))
  · have hnew : ∀ s, R s → r.tag ≠ s.tag → (v'.ownBlock = none ∨ v'.ownBlock ≠ s.v.ownBlock) ∧ (s.v.ownBlock = none ∨ s.v.ownBlock ≠ v'.ownBlock) := by
      intro s hs ht
      cases hv : v'.ownBlock with
      | none => exact ⟨.inl rfl, by cases s.v.ownBlock <;> simp⟩
      | some g =>
        rcases hw.new g hv with h5 | h5
        · have h6 := h.2 r hr s hs ht
          rw [h5] at h6
          rcases h6 with h6 | h6
          · cases h6
          · exact ⟨.inr h6, .inr fun hh => h6 hh.symm⟩
        · have h6 : s.v.ownBlock ≠ some g := fun hh => by
            have := ((h.1 s hs).lt g hh).2
            omega
          exact ⟨.inr fun hh => h6 hh.symm, .inr h6⟩
    intro s hs s' hs' ht
    rcases hs with rfl | hs <;> rcases hs' with rfl | hs'
    · exact absurd rfl ht
    · exact (hnew s' hs' ht).1
    · exact (hnew s hs (fun hh => ht hh.symm)).2
    · exact h.2 s hs s' hs' ht
/-- One row is written over. -/
theorem Fam.over {r : Rw} (h : Fam w base e size R) (hr : R r) {xs' : List Value} (hown : w'.ownsRow base e size r.v r.n xs') (hg : w.grownBy w' r.v.ownBlock) :
    Fam w' base e size (fun s => s = ⟨r.tag, r.v, r.n, xs'⟩ ∨ R s ∧ s.tag ≠ r.tag) := by
  refine ⟨fun s hs => ?_, fun s hs s' hs' ht => ?_⟩
  · rcases hs with rfl | ⟨hs, ht⟩
    · exact hown
    · exact (h.1 s hs).kept hg (h.2 s hs r hr ht)
  · rcases hs with rfl | ⟨hs, ht1⟩ <;> rcases hs' with rfl | ⟨hs', ht2⟩
    · exact absurd rfl ht
    · exact h.2 r hr s' hs' ht
    · exact h.2 s hs r hr ht
    · exact h.2 s hs s' hs' ht
end
end Go.Proofs.YtmhklnjmeoeanaaGreatDoor.G
namespace Go.Proofs.YtmhklnjmeoeanaaGreatDoor.G
open Go Go.RowKit
set_option linter.unusedVariables false
set_option linter.unusedSimpArgs false
/-- One of the lists: its value, its length, its cells. -/
structure Lst where
  v : Value
  n : Nat
  xs : List Value
def mks (mk : Nat → Nat → List Value) (t n : Nat) : List Value := (List.range n).flatMap (mk t)
section
variable {mk : Nat → Nat → List Value} {sz : Nat} (hmk : ∀ n i, (mk n i).length = sz)
theorem mks_zero (t : Nat) : mks mk t 0 = [] := rfl
theorem mks_succ (t n : Nat) : mks mk t (n + 1) = mks mk t n ++ mk t n := by simp [mks, List.range_succ]
include hmk in
theorem mks_length (t n : Nat) : (mks mk t n).length = n * sz := by
  induction n with
  | zero => simp [mks]
  | succ n ih => rw [mks_succ, List.length_append, ih, hmk, Nat.succ_mul]
include hmk in
theorem mks_at (t n i j : Nat) (hi : i < n) (hj : j < sz) : (mks mk t n)[i * sz + j]? = (mk t i)[j]? := by
  induction n with
  | zero => omega
  | succ n ih =>
    rw [mks_succ]
    by_cases h : i < n
    · have h1 : i * sz + j < n * sz := by
        have : (i + 1) * sz ≤ n * sz := Nat.mul_le_mul_right _ h
        rw [Nat.succ_mul] at this
        omega
      rw [List.getElem?_append_left (by rw [mks_length hmk]; exact h1), ih h]
    · obtain rfl : i = n := by omega
      rw [List.getElem?_append_right (by rw [mks_length hmk]; omega), mks_length hmk]
      congr 1
      omega
end
def Rows0 (Ls : List Lst) : Rw → Prop := fun r => ∃ l, Ls[r.tag]? = some l ∧ r.v = l.v ∧ r.n = l.n ∧ r.xs = l.xs
/-- The first part: lists before n are full of marks, list n up to i. -/
def P1 (Ls : List Lst) (mk : Nat → Nat → List Value) (sz n i : Nat) : Rw → Prop := fun r => ∃ l, Ls[r.tag]? = some l ∧ r.v = l.v ∧ r.n = l.n ∧
  r.xs = (if r.tag < n then mks mk r.tag l.n else if r.tag = n then mks mk n i ++ l.xs.drop (i * sz) else l.xs)
/-- The second part: os, ms: those that were kept after one more, and after 70 more. -/
def P2 (Ls : List Lst) (mk : Nat → Nat → List Value) (os ms : List Value) : Rw → Prop := fun r => ∃ l, Ls[r.tag]? = some l ∧
  ((r.v = l.v ∧ r.n = l.n ∧ r.xs = mks mk r.tag l.n) ∨ (os[r.tag]? = some r.v ∧ r.n = l.n + 1 ∧ r.xs = mks mk r.tag (l.n + 1)) ∨ (ms[r.tag]? = some r.v ∧ r.n = l.n + 70 ∧ r.xs = mks mk r.tag (l.n + 70)))
def P2in (Ls : List Lst) (mk : Nat → Nat → List Value) (os ms : List Value) (n : Nat) (v : Value) (m : Nat) : Rw → Prop := fun r => P2 Ls mk os ms r ∨ r = ⟨n, v, m, mks mk n m⟩
section
variable {w w' : World} {base : Nat} {e : TypeId} {sz : Nat} {Ls : List Lst} {mk : Nat → Nat → List Value}
theorem p1_start (h : Fam w base e sz (Rows0 Ls)) : Fam w base e sz (P1 Ls mk sz 0 0) := by
  refine h.sub fun r ⟨l, h1, h2, h3, h4⟩ => ⟨l, h1, h2, h3, ?_⟩
  rw [h4]
  by_cases h0 : r.tag = 0 <;> simp [h0, mks_zero]
theorem p1_row {n i : Nat} {l : Lst} (h : Fam w base e sz (P1 Ls mk sz n i)) (hl : Ls[n]? = some l) : w.ownsRow base e sz l.v l.n (mks mk n i ++ l.xs.drop (i * sz)) := by
  have := h.1 ⟨n, l.v, l.n, mks mk n i ++ l.xs.drop (i * sz)⟩ ⟨l, hl, rfl, rfl, by simp⟩
  exact this
theorem p1_step (hmk : ∀ n i, (mk n i).length = sz) {n i : Nat} {l : Lst} (h : Fam w base e sz (P1 Ls mk sz n i)) (hl : Ls[n]? = some l) (hi : i < l.n)
    (hown : w'.ownsRow base e sz l.v l.n (mks mk n i ++ mk n i ++ l.xs.drop ((i + 1) * sz))) (hg : w.grownBy w' l.v.ownBlock) : Fam w' base e sz (P1 Ls mk sz n (i + 1)) := by
  have hr : P1 Ls mk sz n i ⟨n, l.v, l.n, mks mk n i ++ l.xs.drop (i * sz)⟩ := ⟨l, hl, rfl, rfl, by simp⟩
  refine (h.over hr hown hg).sub fun r ⟨l', h1, h2, h3, h4⟩ => ?_
  by_cases ht : r.tag = n
  · subst ht
    obtain rfl := Option.some.inj (hl.symm.trans h1)
    refine .inl ?_
    obtain ⟨t, v, m, xs⟩ := r
    simp only [Nat.lt_irrefl, if_false, if_true, mks_succ] at h2 h3 h4 ⊢
    subst h2 h3 h4
    rfl
  · refine .inr ⟨⟨l', h1, h2, h3, ?_⟩, ht⟩
    rw [h4, if_neg ht, if_neg ht]
theorem p1_next (hmk : ∀ n i, (mk n i).length = sz) {n : Nat} {l : Lst} (h : Fam w base e sz (P1 Ls mk sz n l.n)) (hl : Ls[n]? = some l) : Fam w base e sz (P1 Ls mk sz (n + 1) 0) := by
  have hlen := (p1_row h hl).1
  refine h.sub fun r ⟨l', h1, h2, h3, h4⟩ => ⟨l', h1, h2, h3, ?_⟩
  rw [h4]
  by_cases ht : r.tag = n
  · subst ht
    obtain rfl := Option.some.inj (hl.symm.trans h1)
    simp only [Nat.lt_irrefl, if_false, if_true, Nat.lt_add_one]
    rw [List.length_append, mks_length hmk] at hlen
    rw [List.eq_nil_of_length_eq_zero (l := List.drop (l.n * sz) l.xs) (by omega), List.append_nil]
  · by_cases h5 : r.tag < n
    · rw [if_pos (by omega), if_pos h5]
    · rw [if_neg (by omega), if_neg h5, if_neg ht]
      by_cases h6 : r.tag = n + 1
      · rw [if_pos h6, mks_zero]; simp
      · rw [if_neg h6]
theorem p1_end {k : Nat} (h : Fam w base e sz (P1 Ls mk sz k 0)) (hk : k = Ls.length) : Fam w base e sz (P2 Ls mk [] []) := by
  refine h.sub fun r ⟨l, h1, h2⟩ => ?_
  have hlt : r.tag < Ls.length := (List.getElem?_eq_some_iff.1 h1).1
  rcases h2 with ⟨h2, h3, h4⟩ | ⟨h2, _⟩ | ⟨h2, _⟩
  · exact ⟨l, h1, h2, h3, by rw [if_pos (by omega)]; exact h4⟩
  · simp at h2
  · simp at h2
theorem p2_row {os ms : List Value} {n : Nat} {l : Lst} (h : Fam w base e sz (P2 Ls mk os ms)) (hl : Ls[n]? = some l) : w.ownsRow base e sz l.v l.n (mks mk n l.n) :=
  h.1 ⟨n, l.v, l.n, mks mk n l.n⟩ ⟨l, hl, .inl ⟨rfl, rfl, rfl⟩⟩
theorem p2_one {os ms : List Value} {n : Nat} {l : Lst} {v : Value} (h : Fam w base e sz (P2 Ls mk os ms)) (hl : Ls[n]? = some l) (ho : os[n]? = some v) : w.ownsRow base e sz v (l.n + 1) (mks mk n (l.n + 1)) :=
  h.1 ⟨n, v, l.n + 1, mks mk n (l.n + 1)⟩ ⟨l, hl, .inr (.inl ⟨ho, rfl, rfl⟩)⟩
theorem p2_more {os ms : List Value} {n : Nat} {l : Lst} {v : Value} (h : Fam w base e sz (P2 Ls mk os ms)) (hl : Ls[n]? = some l) (ho : ms[n]? = some v) : w.ownsRow base e sz v (l.n + 70) (mks mk n (l.n + 70)) :=
  h.1 ⟨n, v, l.n + 70, mks mk n (l.n + 70)⟩ ⟨l, hl, .inr (.inr ⟨ho, rfl, rfl⟩)⟩
theorem p2_first {os ms : List Value} {n : Nat} {l : Lst} (h : Fam w base e sz (P2 Ls mk os ms)) (hl : Ls[n]? = some l) : Fam w base e sz (P2in Ls mk os ms n l.v l.n) := by
  refine h.sub fun r hr => ?_
  rcases hr with hr | rfl
  · exact hr
  · exact ⟨l, hl, .inl ⟨rfl, rfl, rfl⟩⟩
theorem p2_cur {os ms : List Value} {n m : Nat} {v : Value} (h : Fam w base e sz (P2in Ls mk os ms n v m)) : w.ownsRow base e sz v m (mks mk n m) :=
  h.1 ⟨n, v, m, mks mk n m⟩ (.inr rfl)
theorem p2_app {os ms : List Value} {n m : Nat} {l : Lst} {v v' : Value} (h : Fam w base e sz (P2in Ls mk os ms n v m)) (hl : Ls[n]? = some l) (hms : ms.length ≤ n) (hos : os.length ≤ n ∨ l.n + 1 ≤ m) (hm : l.n ≤ m)
    (hown : w'.ownsRow base e sz v' (m + 1) (mks mk n m ++ mk n m)) (hw : Went w w' e v v' (m * sz)) : Fam w' base e sz (P2in Ls mk os ms n v' (m + 1)) := by
  have hr : P2in Ls mk os ms n v m ⟨n, v, m, mks mk n m⟩ := .inr rfl
  refine (h.append hr (fun r' hr' ht => ?_) hown hw).sub fun r hr' => ?_
  · rcases hr' with ⟨l', h1, h2⟩ | rfl
    · simp only at ht
      rw [ht] at h1 h2
      obtain rfl := Option.some.inj (hl.symm.trans h1)
      rcases h2 with ⟨_, h3, _⟩ | ⟨h2, h3, _⟩ | ⟨h2, h3, _⟩
      · simp only; omega
      · have := (List.getElem?_eq_some_iff.1 h2).1
        simp only; omega
      · have := (List.getElem?_eq_some_iff.1 h2).1
        omega
    · exact Nat.le_refl _
  · rcases hr' with hr' | rfl
    · exact .inr (.inl hr')
    · exact .inl (by rw [mks_succ])
theorem p2_keep1 {os ms : List Value} {n : Nat} {l : Lst} {v : Value} (h : Fam w base e sz (P2in Ls mk os ms n v (l.n + 1))) (hl : Ls[n]? = some l) (ho : os.length = n) : Fam w base e sz (P2in Ls mk (os ++ [v]) ms n v (l.n + 1)) := by
  refine h.sub fun r hr => ?_
  rcases hr with ⟨l', h1, h2⟩ | rfl
  · rcases h2 with h2 | ⟨h2, h3, h4⟩ | h2
    · exact .inl ⟨l', h1, .inl h2⟩
    · by_cases hlt : r.tag < os.length
      · rw [List.getElem?_append_left hlt] at h2
        exact .inl ⟨l', h1, .inr (.inl ⟨h2, h3, h4⟩)⟩
      · rw [List.getElem?_append_right (by omega)] at h2
        have h0 : r.tag - os.length = 0 := by
          have := (List.getElem?_eq_some_iff.1 h2).1
          simpa using this
        rw [h0] at h2
        have ht : r.tag = n := by omega
        rw [ht] at h1 h4
        obtain rfl := Option.some.inj (hl.symm.trans h1)
        obtain ⟨t, rv, rn, rxs⟩ := r
        simp only [List.getElem?_cons_zero, Option.some.injEq] at h2 h3 h4 ht
        subst h2 h3 h4 ht
        exact .inr rfl
    · exact .inl ⟨l', h1, .inr (.inr h2)⟩
  · exact .inr rfl
theorem p2_keep70 {os ms : List Value} {n : Nat} {l : Lst} {v : Value} (h : Fam w base e sz (P2in Ls mk os ms n v (l.n + 70))) (hl : Ls[n]? = some l) (ho : ms.length = n) : Fam w base e sz (P2 Ls mk os (ms ++ [v])) := by
  refine h.sub fun r hr => ?_
  obtain ⟨l', h1, h2⟩ := hr
  rcases h2 with h2 | h2 | ⟨h2, h3, h4⟩
  · exact .inl ⟨l', h1, .inl h2⟩
  · exact .inl ⟨l', h1, .inr (.inl h2)⟩
  · by_cases hlt : r.tag < ms.length
    · rw [List.getElem?_append_left hlt] at h2
      exact .inl ⟨l', h1, .inr (.inr ⟨h2, h3, h4⟩)⟩
    · rw [List.getElem?_append_right (by omega)] at h2
      have h0 : r.tag - ms.length = 0 := by
        have := (List.getElem?_eq_some_iff.1 h2).1
        simpa using this
      rw [h0] at h2
      have ht : r.tag = n := by omega
      rw [ht] at h1 h4
      obtain rfl := Option.some.inj (hl.symm.trans h1)
      obtain ⟨t, rv, rn, rxs⟩ := r
      simp only [List.getElem?_cons_zero, Option.some.injEq] at h2 h3 h4 ht
      subst h2 h3 h4 ht
      exact .inr rfl
theorem Fam.kept_all {R : Rw → Prop} {row : Option Nat} (h : Fam w base e sz R) (hg : w.grownBy w' row) (hne : ∀ g, row = some g → ∀ cur, w.heap[g]? ≠ some (.cells cur e (0, 0))) : Fam w' base e sz R := by
  refine h.kept hg fun r hr => ?_
  cases hv : r.v.ownBlock with
  | none => exact .inl rfl
  | some g =>
    refine .inr fun hh => ?_
    obtain ⟨cur, hc⟩ := ownsRow.block_e (h.1 r hr) hv
    exact hne g hh.symm cur hc
theorem Fam.drewN {R : Rw → Prop} (h : Fam w base e sz R) (n : Nat) : Fam (w.drewN n) base e sz R := h
theorem Fam.below {R : Rw → Prop} (h : Fam w base e sz R) (hb : Below w.heap.size w w') : Fam w' base e sz R :=
  h.kept_all (row := none) ⟨hb.os, hb.tape, hb.output, hb.size, fun k hk _ => hb.block k hk⟩ (fun g hg => by cases hg)
theorem Fam.alloc {R : Rw → Prop} (h : Fam w base e sz R) (o : Obj) : Fam (w.alloc o) base e sz R :=
  h.kept_all (World.grownBy_alloc w o none) (fun g hg => by cases hg)
/-- What an append to a row of another element type leaves. -/
theorem Fam.far {R : Rw → Prop} {e2 : TypeId} {base2 sz2 n2 : Nat} {v2 : Value} {xs2 : List Value} (h : Fam w base e sz R) (h2 : w.ownsRow base2 e2 sz2 v2 n2 xs2) (hg : w.grownBy w' v2.ownBlock) (he : e2 ≠ e) : Fam w' base e sz R := by
  refine h.kept_all hg fun g hv cur hc => ?_
  obtain ⟨c2, h4⟩ := ownsRow.block_e h2 hv
  rw [hc] at h4
  simp only [Option.some.injEq, Obj.cells.injEq] at h4
  exact he h4.2.1.symm
/-- Two rows that go on growing. -/
def Two (v5 : Value) (n : Nat) (os : List Value) (v6 : Value) (m : Nat) (ms : List Value) : Rw → Prop := fun r => r = ⟨1, v5, n, os⟩ ∨ r = ⟨2, v6, m, ms⟩
theorem two_nil (w : World) (base : Nat) (e : TypeId) : Fam w base e 1 (Two (.slice none 0 0) 0 [] (.slice none 0 0) 0 []) := by
  refine ⟨fun r hr => ?_, fun r hr r' _ _ => ?_⟩
  · rcases hr with rfl | rfl <;> exact World.ownsRow_nil _ _ _ _
  · rcases hr with rfl | rfl <;> exact .inl rfl
section
variable {v5 v6 v' : Value} {n m : Nat} {os ms xs' : List Value}
theorem two_l (h : Fam w base e 1 (Two v5 n os v6 m ms)) : w.ownsRow base e 1 v5 n os := h.1 ⟨1, v5, n, os⟩ (.inl rfl)
theorem two_r (h : Fam w base e 1 (Two v5 n os v6 m ms)) : w.ownsRow base e 1 v6 m ms := h.1 ⟨2, v6, m, ms⟩ (.inr rfl)
theorem two_app_l (h : Fam w base e 1 (Two v5 n os v6 m ms)) {n' : Nat} (hown : w'.ownsRow base e 1 v' n' xs') (hw : Went w w' e v5 v' (n * 1)) : Fam w' base e 1 (Two v' n' xs' v6 m ms) := by
  refine (h.append (r := ⟨1, v5, n, os⟩) (.inl rfl) (fun r' hr' ht => ?_) hown hw).sub fun r hr => ?_
  · rcases hr' with rfl | rfl
    · exact Nat.le_refl _
    · simp at ht
  · rcases hr with rfl | rfl
    · exact .inl rfl
    · exact .inr (.inr rfl)
theorem two_app_r (h : Fam w base e 1 (Two v5 n os v6 m ms)) {n' : Nat} (hown : w'.ownsRow base e 1 v' n' xs') (hw : Went w w' e v6 v' (m * 1)) : Fam w' base e 1 (Two v5 n os v' n' xs') := by
  refine (h.append (r := ⟨2, v6, m, ms⟩) (.inr rfl) (fun r' hr' ht => ?_) hown hw).sub fun r hr => ?_
  · rcases hr' with rfl | rfl
    · simp at ht
    · exact Nat.le_refl _
  · rcases hr with rfl | rfl
    · exact .inr (.inl rfl)
    · exact .inl rfl
end
end
theorem row_at {w : World} {hb ho n : Nat} {vs : List Value} {v : Value} (h : RdV w hb ho vs) (hl : vs[n]? = some v) : w.cell? ⟨hb, ho + n, none⟩ = some v := by
  rw [h.2 n (List.getElem?_eq_some_iff.1 hl).1, List.getD_eq_getElem?_getD, hl]
  rfl
theorem own_addr {w : World} {base : Nat} {e : TypeId} {sz : Nat} {v : Value} {n : Nat} {xs : List Value} (h : w.ownsRow base e sz v n xs) (hn : 0 < n) : ∃ g cap, v = .slice (some ⟨g, 0, none⟩) n cap ∧ base ≤ g ∧ n ≤ cap ∧ ∃ cur, w.heap[g]? = some (.cells cur e (0, 0)) := by
  rcases h.2 with ⟨rfl, rfl⟩ | ⟨g, cap, cur, rfl, hb, hgg, hnc, _⟩
  · omega
  · exact ⟨g, cap, rfl, hb, hnc, cur, hgg⟩
theorem own_cell {w : World} {base : Nat} {e : TypeId} {g n cap i : Nat} {vs : List Value} {v : Value} (h : w.ownsRow base e 1 (.slice (some ⟨g, 0, none⟩) n cap) n vs) (hl : vs[i]? = some v) : w.cell? ⟨g, i, none⟩ = some v := by
  have h1 := (List.getElem?_eq_some_iff.1 hl).1
  have h2 := h.1
  rw [h.cellAt i (by omega), hl]
/-- What the last part reads of the n-th list, in every world that has kept the rows. -/
structure Look (wr : World) (base : Nat) (E : TypeId) (sz : Nat) (mk : Nat → Nat → List Value) (gb off k hc hb h5 h6 n ln gm cm go co cl : Nat) (al : Option Addr) : Prop where
  bag : wr.cell? ⟨gb, off, none⟩ = some (.slice (some ⟨hb, 0, none⟩) k hc)
  hdr : wr.cell? ⟨hb, n, none⟩ = some (.slice al ln cl)
  one : wr.cell? ⟨h5, n, none⟩ = some (.slice (some ⟨go, 0, none⟩) (ln + 1) co)
  more : wr.cell? ⟨h6, n, none⟩ = some (.slice (some ⟨gm, 0, none⟩) (ln + 70) cm)
  m : wr.ownsRow base E sz (.slice (some ⟨gm, 0, none⟩) (ln + 70) cm) (ln + 70) (mks mk n (ln + 70))
  o : wr.ownsRow base E sz (.slice (some ⟨go, 0, none⟩) (ln + 1) co) (ln + 1) (mks mk n (ln + 1))
  r : wr.ownsRow base E sz (.slice al ln cl) ln (mks mk n ln)
theorem look_use {Q : Prop} {w wr : World} {base base2 : Nat} {E S : TypeId} {sz : Nat} {mk : Nat → Nat → List Value} {gb off k hc c5 c6 n : Nat} {HA a5 a6 : Option Addr} {Ls : List Lst} {os ms : List Value}
    (hBag : ∀ wr, Only E base w wr → wr.cell? ⟨gb, off, none⟩ = some (.slice HA k hc) ∧ RdS wr HA 1 k (Ls.map Lst.v)) (hho : w.ownsRow base2 S 1 (.slice HA k hc) k (Ls.map Lst.v)) (hk : Ls.length = k) (hos : os.length = k) (hms : ms.length = k) (hn : n < k)
    (hlen : ∀ l ∈ Ls, l.n ≤ 1099511627776) (hfam : Fam wr base E sz (P2 Ls mk os ms)) (htwo : Fam wr w.heap.size S 1 (Two (.slice a5 k c5) k os (.slice a6 k c6) k ms))
    (h : ∀ hb h5 h6 ln gm cm go co cl al, HA = some ⟨hb, 0, none⟩ → a5 = some ⟨h5, 0, none⟩ → a6 = some ⟨h6, 0, none⟩ → ln ≤ 1099511627776 →
      (∀ wr, Only E base w wr → Fam wr base E sz (P2 Ls mk os ms) → Fam wr w.heap.size S 1 (Two (.slice a5 k c5) k os (.slice a6 k c6) k ms) → Look wr base E sz mk gb off k hc hb h5 h6 n ln gm cm go co cl al) → Q) : Q := by
  obtain ⟨l, hl⟩ : ∃ l, Ls[n]? = some l := ⟨_, List.getElem?_eq_getElem (by omega)⟩
  obtain ⟨mv, hmv⟩ : ∃ mv, ms[n]? = some mv := ⟨_, List.getElem?_eq_getElem (by omega)⟩
  obtain ⟨ov, hov⟩ : ∃ ov, os[n]? = some ov := ⟨_, List.getElem?_eq_getElem (by omega)⟩
  have hln := hlen l (List.mem_of_getElem? hl)
  obtain ⟨gm, cm, hmv2, _⟩ := own_addr (p2_more hfam hl hmv) (by omega)
  obtain ⟨go, co, hov2, _⟩ := own_addr (p2_one hfam hl hov) (by omega)
  obtain ⟨al, cl, hv⟩ := own_shape (p2_row hfam hl)
  obtain ⟨hb, _, hA, _⟩ := own_addr hho (by omega)
  obtain ⟨h5, _, h5e, _⟩ := own_addr (two_l htwo) (by omega)
  obtain ⟨h6, _, h6e, _⟩ := own_addr (two_r htwo) (by omega)
  simp only [Value.slice.injEq, true_and] at hA h5e h6e
  obtain ⟨rfl, rfl⟩ := hA
  obtain ⟨rfl, rfl⟩ := h5e
  obtain ⟨rfl, rfl⟩ := h6e
  refine h hb h5 h6 l.n gm cm go co cl al rfl rfl rfl hln fun wr hO hfam htwo => ?_
  obtain ⟨q1, q2⟩ := hBag wr hO
  obtain ⟨hb', ho', hHA', hrv⟩ := q2.2 (by omega)
  simp only [Option.some.injEq, Addr.mk.injEq, and_true] at hHA'
  obtain ⟨rfl, rfl⟩ := hHA'
  have hlm : (Ls.map Lst.v)[n]? = some l.v := by rw [List.getElem?_map, hl]; rfl
  have q3 := row_at hrv hlm
  rw [hv, Nat.zero_add] at q3
  have q6 := own_cell (two_r htwo) hmv
  have q5 := own_cell (two_l htwo) hov
  rw [hmv2] at q6
  rw [hov2] at q5
  have q7 := p2_more hfam hl hmv
  rw [hmv2] at q7
  have q8 := p2_one hfam hl hov
  rw [hov2] at q8
  have q9 := p2_row hfam hl
  rw [hv] at q9
  exact ⟨q1, q3, q5, q6, q7, q8, q9⟩
theorem mark_cell1 {w : World} {base : Nat} {e : TypeId} {g cap m n j : Nat} {mk : Nat → Nat → List Value} {u : Value} (hmk : ∀ n i, (mk n i).length = 1) (h : w.ownsRow base e 1 (.slice (some ⟨g, 0, none⟩) m cap) m (mks mk n m)) (hj : j < m) (hu : mk n j = [u]) : w.cell? ⟨g, j, none⟩ = some u := by
  have h1 := mks_at hmk n m j 0 hj (by omega)
  rw [Nat.mul_one, Nat.add_zero] at h1
  rw [h.cellAt j (by omega), h1, hu]
  rfl
theorem own_use {Q : Prop} {w : World} {base : Nat} {e : TypeId} {sz n cl : Nat} {al : Option Addr} {xs : List Value} (h : w.ownsRow base e sz (.slice al n cl) n xs) (hn : 0 < n) (hQ : ∀ g, al = some ⟨g, 0, none⟩ → Q) : Q := by
  obtain ⟨g, c, he, _⟩ := own_addr h hn
  simp only [Value.slice.injEq, true_and] at he
  exact hQ g he.1
end Go.Proofs.YtmhklnjmeoeanaaGreatDoor.G
namespace Go.Proofs.YtmhklnjmeoeanaaGreatDoor.G
open Go Go.ChangeShapes Go.WideShapes Go.Deep Go.RowKit
set_option linter.unusedVariables false
set_option linter.unusedSimpArgs false
section
variable {H : Type} {enc : TypeId × Value → H} {P : Program} {w : World} {base : Nat} {spare : Nat → Bool} {held : Bool}
theorem open_slice_fields {t e : TypeId} {fs : Array Field} {fuel : Nat} {cs : List Value} {x : DataW H × List MemPlace} (ht : P.underlying t = some (.slice e)) (he : P.underlying e = some (.struct fs))
    (hone : oneCellFields P fs = true) (hC : P.cellsOf e = fs.size) (h : DataW.trod enc P w base spare held fuel t cs = some x) :
    (cs = [.slice none 0 0] ∧ x = (.nil, [])) ∨
    ∃ (a : Addr) (len cap m : Nat) (D : Nat → DataW H) (Pl : Nat → List MemPlace), cs = [.slice (some a) len cap] ∧ base ≤ a.block ∧ len ≤ cap ∧ cap ≤ maxLen ∧ m = (if spare a.block then cap else len) ∧
      x = (.slice ((List.range len).map D) ((List.range (m - len)).map fun j => D (len + j)), MemPlace.row a (m * fs.size) ++ (List.range m).flatMap Pl) ∧
      ∀ i, i < m → ∃ (ys : List (DataW H × List MemPlace)) (n : Nat), D i = .agg (ys.map (·.1)) ∧ Pl i = ys.flatMap (·.2) ∧ ys.length = fs.size ∧
        ∀ (j : Nat) (f : Field), fs[j]? = some f → ∃ (v : Value) (y : DataW H × List MemPlace), w.cell? (a.add (i * fs.size + j)) = some v ∧ ys[j]? = some y ∧ DataW.trod enc P w base spare held n f.type [v] = some y := by
  rcases open_slice ht h with h0 | ⟨a, len, cap, m, n, D, Pl, hcs, hb, hl, hm, hmm, hx, hi⟩
  · exact .inl h0
  · refine .inr ⟨a, len, cap, m, D, Pl, hcs, hb, hl, hm, hmm, by rw [hC] at hx; exact hx, fun i him => ?_⟩
    obtain ⟨cs', hc, ht'⟩ := hi i him
    rw [hC] at hc
    obtain ⟨ys, n', hn', hy, hlen, hyl, hf⟩ := DataW.trod_struct he ht'
    obtain ⟨_, hcl, hat⟩ := World.cells?_some hc
    simp only [Prod.mk.injEq] at hy
    refine ⟨ys, n', hy.1, hy.2, hyl, fun j f hj => ?_⟩
    obtain ⟨ho, hk⟩ := hone_of hone j f hj
    have hjl : j < fs.size := (Array.getElem?_eq_some_iff.1 hj).1
    have hcell := hat j hjl
    have hv : cs'[j]? = some (cs'[j]'(by omega)) := List.getElem?_eq_getElem (by omega)
    have h1 := hf j f hj
    rw [ho, hk] at h1
    have hone' : (cs'.drop j).take 1 = [cs'[j]'(by omega)] := by
      rw [List.drop_eq_getElem_cons (by omega)]
      rfl
    rw [hone'] at h1
    have hys : ys[j]? = some (ys[j]'(by omega)) := List.getElem?_eq_getElem (by omega)
    refine ⟨_, _, ?_, hys, h1.trans hys⟩
    rw [← Go.Deep.add_add, hcell, hv]
end
theorem list_of {α : Type} (d : α) (P : Nat → α → Prop) : ∀ m : Nat, (∀ i, i < m → ∃ x, P i x) → ∃ l : List α, l.length = m ∧ ∀ i, i < m → P i (l.getD i d)
  | 0, _ => ⟨[], rfl, fun i hi => by omega⟩
  | m + 1, h => by
    obtain ⟨l, hl, hp⟩ := list_of d P m (fun i hi => h i (by omega))
    obtain ⟨x, hx⟩ := h m (by omega)
    refine ⟨l ++ [x], by simp [hl], fun i hi => ?_⟩
    rw [List.getD_eq_getElem?_getD]
    by_cases e : i < m
    · rw [List.getElem?_append_left (by omega), ← List.getD_eq_getElem?_getD]
      exact hp i e
    · obtain rfl : i = m := by omega
      rw [List.getElem?_append_right (by omega), hl, Nat.sub_self]
      exact hx
theorem flat_getD {α : Type} (f : α → List Value) (sz : Nat) (hf : ∀ x, (f x).length = sz) (d : α) : ∀ (l : List α) (i j : Nat), i < l.length → j < sz → (l.flatMap f).getD (i * sz + j) undef = (f (l.getD i d)).getD j undef
  | [], i, j, hi, _ => by simp at hi
  | x :: l, 0, j, _, hj => by
    rw [List.flatMap_cons, Nat.zero_mul, Nat.zero_add, List.getD_eq_getElem?_getD, List.getElem?_append_left (by rw [hf]; exact hj), ← List.getD_eq_getElem?_getD]
    rfl
  | x :: l, i + 1, j, hi, hj => by
    have ih := flat_getD f sz hf d l i j (by simp at hi; omega) hj
    rw [List.flatMap_cons, List.getD_eq_getElem?_getD, List.getElem?_append_right (by rw [hf, Nat.succ_mul]; omega), hf, ← List.getD_eq_getElem?_getD]
    have e : (i + 1) * sz + j - sz = i * sz + j := by rw [Nat.succ_mul]; omega
    rw [e, ih]
    rfl
theorem flat_len {α : Type} (f : α → List Value) (sz : Nat) (hf : ∀ x, (f x).length = sz) (l : List α) : (l.flatMap f).length = l.length * sz := by
  induction l with
  | nil => simp
  | cons x l ih => rw [List.flatMap_cons, List.length_append, ih, hf, List.length_cons, Nat.succ_mul]; omega
/-- Cells of structs, element by element, read as the list. -/
theorem rdV_structs {α : Type} {f : α → List Value} {sz : Nat} (hf : ∀ x, (f x).length = sz) (d : α) {w : World} {b off len : Nat} {l : List α} (hb : b < w.heap.size) (hl : l.length = len)
    (h : ∀ i, i < len → ∀ j, j < sz → w.cell? ⟨b, off + (i * sz + j), none⟩ = some ((f (l.getD i d)).getD j undef)) : RdV w b off (l.flatMap f) := by
  refine ⟨hb, fun k hk => ?_⟩
  rw [flat_len f sz hf, hl] at hk
  have hsz : 0 < sz := by
    rcases Nat.eq_zero_or_pos sz with e | e
    · rw [e] at hk; omega
    · exact e
  have e : k = k / sz * sz + k % sz := by rw [Nat.mul_comm]; exact (Nat.div_add_mod k sz).symm
  have h1 : k / sz < len := by rw [Nat.div_lt_iff_lt_mul hsz]; exact hk
  have h2 : k % sz < sz := Nat.mod_lt _ hsz
  rw [e, flat_getD f sz hf d l _ _ (by omega) h2]
  exact h _ h1 _ h2
theorem plain_addr {w : World} {a : Addr} {v : Value} {n : Nat} (h : w.cell? (a.add n) = some v) (hn : n = 0) : ∃ b off, a = ⟨b, off, none⟩ := by
  obtain ⟨b, off, spot⟩ := a
  subst hn
  have hspot : spot = none := by simpa [Addr.add] using World.cell?_spot h
  subst hspot
  exact ⟨b, off, rfl⟩
end Go.Proofs.YtmhklnjmeoeanaaGreatDoor.G
namespace Go.Proofs.YtmhklnjmeoeanaaGreatDoor.G
open Go Go.RowKit
set_option linter.unusedVariables false
set_option linter.unusedSimpArgs false
/-- The cells of a struct, stored one behind the other. -/
def setCells (w : World) (g p : Nat) : List Value → World
  | [] => w
  | u :: us => setCells (w.setCell ⟨g, p, none⟩ u) g (p + 1) us
theorem splice_cons {xs : List Value} {p : Nat} {u : Value} {us : List Value} (hp : p < xs.length) : (xs.set p u).take (p + 1) ++ us ++ (xs.set p u).drop (p + 1 + us.length) = xs.take p ++ (u :: us) ++ xs.drop (p + (u :: us).length) := by
  rw [List.take_set, List.drop_set, if_pos (by omega), List.take_succ_eq_append_getElem hp]
  rw [List.set_append_right _ _ (by rw [List.length_take]; omega), List.length_take]
  have : p - min p xs.length = 0 := by omega
  rw [this, List.set_cons_zero]
  simp only [List.length_cons, List.append_assoc, List.cons_append, List.nil_append]
  congr 4
  omega
theorem grown_trans {w w1 w2 : World} {row : Option Nat} (h : w.grownBy w1 row) (k : w1.grownBy w2 row) : w.grownBy w2 row :=
  ⟨k.os.trans h.os, k.tape.trans h.tape, k.output.trans h.output, Nat.le_trans h.size k.size, fun b hb hr => (k.block b (Nat.lt_of_lt_of_le hb h.size) hr).trans (h.block b hb hr)⟩
theorem own_setCells {base : Nat} {e : TypeId} {sz g n cap : Nat} : ∀ (us : List Value) {w : World} {xs : List Value} {p : Nat}, w.ownsRow base e sz (.slice (some ⟨g, 0, none⟩) n cap) n xs → p + us.length ≤ xs.length →
    (setCells w g p us).ownsRow base e sz (.slice (some ⟨g, 0, none⟩) n cap) n (xs.take p ++ us ++ xs.drop (p + us.length)) ∧ w.grownBy (setCells w g p us) (some g)
  | [], w, xs, p, h, hp => by
    refine ⟨?_, ⟨rfl, rfl, rfl, Nat.le_refl _, fun _ _ _ => rfl⟩⟩
    simp only [setCells, List.append_nil, List.length_nil, Nat.add_zero, List.take_append_drop]
    exact h
  | u :: us, w, xs, p, h, hp => by
    have hst := h.stored p u
    simp only [List.length_cons] at hp
    have ih := own_setCells us (p := p + 1) hst.1 (by rw [List.length_set]; omega)
    rw [splice_cons (by omega)] at ih
    exact ⟨ih.1, grown_trans hst.2 ih.2⟩
theorem Only.grown_in {E : TypeId} {B : Nat} {w w1 w2 : World} {g : Nat} {cs : Array Value} (h : Only E B w w1) (hg : w1.grownBy w2 (some g)) (hb : B ≤ g) (hB : B ≤ w1.heap.size) (hc : w1.heap[g]? = some (.cells cs E (0, 0))) : Only E B w w2 :=
  h.grown hg hB fun k hk => by
    obtain rfl := Option.some.inj hk
    exact ⟨hb, cs, hc⟩
theorem setmid {mk : Nat → Nat → List Value} {sz : Nat} (hmk : ∀ n i, (mk n i).length = sz) {n i : Nat} {xs : List Value} (hi : (i + 1) * sz ≤ xs.length) :
    (mks mk n i ++ xs.drop (i * sz)).take (i * sz) ++ mk n i ++ (mks mk n i ++ xs.drop (i * sz)).drop (i * sz + (mk n i).length) = mks mk n i ++ mk n i ++ xs.drop ((i + 1) * sz) := by
  have h1 : (mks mk n i).length = i * sz := mks_length hmk n i
  rw [List.take_left' h1, hmk, List.drop_append, h1, List.drop_eq_nil_of_le (by omega), List.nil_append, List.drop_drop, Nat.succ_mul]
  congr 2
  omega
theorem mark_cellc {w : World} {base : Nat} {e : TypeId} {g cap m n j sz c : Nat} {mk : Nat → Nat → List Value} {u : Value} (hmk : ∀ n i, (mk n i).length = sz) (h : w.ownsRow base e sz (.slice (some ⟨g, 0, none⟩) m cap) m (mks mk n m)) (hj : j < m) (hu : (mk n j)[c]? = some u) :
    w.cell? ⟨g, j * sz + c, none⟩ = some u := by
  have hc : c < sz := by rw [← hmk n j]; exact (List.getElem?_eq_some_iff.1 hu).1
  have h1 := mks_at hmk n m j c hj hc
  have h2 : j * sz + c < m * sz := by
    have : (j + 1) * sz ≤ m * sz := Nat.mul_le_mul_right _ hj
    rw [Nat.succ_mul] at this
    omega
  rw [h.cellAt _ h2, h1, hu]
theorem cells5_use {Q : Prop} {w : World} {base : Nat} {e : TypeId} {g n cap j : Nat} {xs : List Value} (h : w.ownsRow base e 5 (.slice (some ⟨g, 0, none⟩) n cap) n xs) (hj : j < n)
    (hQ : ∀ y0 y1 y2 y3 y4, w.cell? ⟨g, j * 5, none⟩ = some y0 → w.cell? ⟨g, j * 5 + 1, none⟩ = some y1 → w.cell? ⟨g, j * 5 + 2, none⟩ = some y2 → w.cell? ⟨g, j * 5 + 3, none⟩ = some y3 → w.cell? ⟨g, j * 5 + 4, none⟩ = some y4 →
      w.frozen? ⟨g, j * 5, none⟩ = false → w.frozen? ⟨g, j * 5 + 1, none⟩ = false → w.frozen? ⟨g, j * 5 + 2, none⟩ = false → w.frozen? ⟨g, j * 5 + 3, none⟩ = false → w.frozen? ⟨g, j * 5 + 4, none⟩ = false → Q) : Q := by
  have hc : ∀ c, c < 5 → w.cell? ⟨g, j * 5 + c, none⟩ = some (xs.getD (j * 5 + c) undef) := fun c hc => by
    rw [h.cellAt _ (by omega), List.getD_eq_getElem?_getD, List.getElem?_eq_getElem (by rw [h.1]; omega)]
    rfl
  exact hQ _ _ _ _ _ (hc 0 (by omega)) (hc 1 (by omega)) (hc 2 (by omega)) (hc 3 (by omega)) (hc 4 (by omega)) (h.frozenAt _) (h.frozenAt _) (h.frozenAt _) (h.frozenAt _) (h.frozenAt _)
end Go.Proofs.YtmhklnjmeoeanaaGreatDoor.G
namespace Go.Proofs.YtmhklnjmeoeanaaGreatDoor.D
open Go Go.RowKit
set_option linter.unusedVariables false
set_option linter.unusedSimpArgs false
theorem ret_bool {a b : Bool} (h : a = b) : Ending.returned (.bool a) = .returned (.bool b) := by rw [h]
theorem flatP_len (l : List Pl) : (flatP l).length = l.length * 3 := G.flat_len Pl.cells 3 (fun _ => rfl) l
theorem pl_at {w : World} {b off k : Nat} {l : List Pl} {x : Pl} (h : G.RdV w b off (flatP l)) (hk : k < l.length) (hx : l.getD k zeroPl = x) :
    w.cell? ⟨b, off + k * 3, none⟩ = some (.int .i32 x.life) ∧ w.cell? ⟨b, off + k * 3 + 1, none⟩ = some (.int .i32 x.energy) ∧ w.cell? ⟨b, off + k * 3 + 2, none⟩ = some (.bool x.out) := by
  have key : ∀ j, j < 3 → w.cell? ⟨b, off + k * 3 + j, none⟩ = some (x.cells.getD j undef) := fun j hj => by
    have h1 := h.2 (k * 3 + j) (by rw [flatP_len]; omega)
    have h2 : (flatP l).getD (k * 3 + j) undef = (Pl.cells (l.getD k zeroPl)).getD j undef := G.flat_getD Pl.cells 3 (fun _ => rfl) zeroPl l k j hk hj
    rw [h2, hx] at h1
    rw [Nat.add_assoc]
    exact h1
  exact ⟨key 0 (by omega), key 1 (by omega), key 2 (by omega)⟩
theorem cd_at {w : World} {b off k : Nat} {l : List Cd} {x : Cd} (h : G.RdV w b off (flatC l)) (hk : k < l.length) (hx : l.getD k zeroCd = x) :
    w.cell? ⟨b, off + k * 6, none⟩ = some (.int .i64 x.kind) ∧ w.cell? ⟨b, off + k * 6 + 1, none⟩ = some (.int .i64 x.owner) ∧ w.cell? ⟨b, off + k * 6 + 2, none⟩ = some (.int .i32 x.power) ∧ w.cell? ⟨b, off + k * 6 + 3, none⟩ = some (.int .i32 x.health) ∧
      w.cell? ⟨b, off + k * 6 + 4, none⟩ = some (.int .i32 x.damage) ∧ w.cell? ⟨b, off + k * 6 + 5, none⟩ = some (.int .i32 x.marks) := by
  have key : ∀ j, j < 6 → w.cell? ⟨b, off + k * 6 + j, none⟩ = some (x.cells.getD j undef) := fun j hj => by
    have h1 := h.2 (k * 6 + j) (by rw [flatC_length]; omega)
    have h2 : (flatC l).getD (k * 6 + j) undef = (Cd.cells (l.getD k zeroCd)).getD j undef := G.flat_getD Cd.cells 6 (fun _ => rfl) zeroCd l k j hk hj
    rw [h2, hx] at h1
    rw [Nat.add_assoc]
    exact h1
  exact ⟨key 0 (by omega), key 1 (by omega), key 2 (by omega), key 3 (by omega), key 4 (by omega), key 5 (by omega)⟩
theorem i64_at {w : World} {b off k : Nat} {l : List Int} (h : G.RdV w b off (i64s l)) (hk : k < l.length) : w.cell? ⟨b, off + k, none⟩ = some (.int .i64 (l.getD k 0)) := by
  rw [h.2 k (by rw [i64s_length]; exact hk)]
  simp [i64s, List.getD_eq_getElem?_getD, List.getElem?_eq_getElem hk]
/-- Where the lists of a state lie. -/
structure SV where
  pa : Option Addr
  pc : Nat
  ca : Option Addr
  cc : Nat
  za : Option Addr
  zc : Nat
  rows : List Value
def SV.arr (x : SV) (s : St) : Array Value := #[.slice x.pa s.players.length x.pc, .slice x.ca s.cards.length x.cc, .slice x.za s.zones.length x.zc, .int .i32 s.turn, .int .i64 s.whose, .int .i8 s.fin, .int .i64 s.winner]
def SV.val (x : SV) (s : St) : Value := .agg (x.arr s)
def zeroSV : SV := ⟨none, 0, none, 0, none, 0, []⟩
/-- A row of a list of lists. -/
def RdRow (w : World) (v : Value) (l : List Int) : Prop := ∃ a k, v = .slice a l.length k ∧ G.RdS w a 1 l.length (i64s l)
/-- A state reads. -/
structure RdSt (w : World) (x : SV) (s : St) : Prop where
  p : G.RdS w x.pa 3 s.players.length (flatP s.players)
  c : G.RdS w x.ca 6 s.cards.length (flatC s.cards)
  z : G.RdS w x.za 1 s.zones.length x.rows
  rows : ∀ i, i < s.zones.length → RdRow w (x.rows.getD i undef) (s.zones.getD i [])
/-- Sizes that every sum stands. -/
structure Sz (s : St) : Prop where
  p : s.players.length ≤ 33554432
  c : s.cards.length ≤ 33554432
  z : s.zones.length ≤ 33554432
  r : ∀ i, (s.zones.getD i []).length ≤ 33554432
theorem RdRow.below {w w' : World} {v : Value} {l : List Int} (h : RdRow w v l) (hb : Below w.heap.size w w') : RdRow w' v l := by
  obtain ⟨a, k, e, hr⟩ := h
  exact ⟨a, k, e, hr.below hb⟩
theorem RdSt.below {w w' : World} {x : SV} {s : St} (h : RdSt w x s) (hb : Below w.heap.size w w') : RdSt w' x s :=
  ⟨h.p.below hb, h.c.below hb, h.z.below hb, fun i hi => (h.rows i hi).below hb⟩
theorem rows_at {w : World} {a : Option Addr} {n i : Nat} {vs : List Value} (h : G.RdS w a 1 n vs) (hi : i < n) : ∃ b off, a = some ⟨b, off, none⟩ ∧ w.cell? ⟨b, off + i, none⟩ = some (vs.getD i undef) := by
  obtain ⟨b, off, e, hr⟩ := h.2 (by omega)
  exact ⟨b, off, e, hr.2 i (by have := h.1; omega)⟩
/-- A state that a call owns: its rows share nothing. -/
structure OwnSt (w : World) (base : Nat) (x : SV) (s : St) : Prop where
  p : w.ownsRow base 44 3 (.slice x.pa s.players.length x.pc) s.players.length (flatP s.players)
  c : w.ownsRow base 39 6 (.slice x.ca s.cards.length x.cc) s.cards.length (flatC s.cards)
  z : w.ownsRow base 35 1 (.slice x.za s.zones.length x.zc) s.zones.length x.rows
  rows : ∀ i, i < s.zones.length → w.ownsRow base 3 1 (x.rows.getD i undef) (s.zones.getD i []).length (i64s (s.zones.getD i []))
  apart : ∀ i j, i < s.zones.length → j < s.zones.length → i ≠ j → (x.rows.getD i undef).ownBlock = none ∨ (x.rows.getD i undef).ownBlock ≠ (x.rows.getD j undef).ownBlock
theorem OwnSt.below {w w' : World} {base : Nat} {x : SV} {s : St} (h : OwnSt w base x s) (hb : Below w.heap.size w w') : OwnSt w' base x s :=
  ⟨G.own_below h.p hb, G.own_below h.c hb, G.own_below h.z hb, fun i hi => G.own_below (h.rows i hi) hb, h.apart⟩
theorem OwnSt.ge {w : World} {base base' : Nat} {x : SV} {s : St} (h : OwnSt w base x s) (hb : base' ≤ base) : OwnSt w base' x s :=
  ⟨G.own_ge h.p hb, G.own_ge h.c hb, G.own_ge h.z hb, fun i hi => G.own_ge (h.rows i hi) hb, h.apart⟩
theorem row_of_own {w : World} {base : Nat} {e : TypeId} {v : Value} {l : List Int} (h : w.ownsRow base e 1 v l.length (i64s l)) : RdRow w v l := by
  obtain ⟨a, c, rfl⟩ := G.own_shape h
  exact ⟨a, c, rfl, G.RdS.of_own h⟩
theorem OwnSt.rd {w : World} {base : Nat} {x : SV} {s : St} (h : OwnSt w base x s) : RdSt w x s :=
  ⟨G.RdS.of_own h.p, G.RdS.of_own h.c, G.RdS.of_own h.z, fun i hi => row_of_own (h.rows i hi)⟩
theorem zero_own (w : World) (base : Nat) : OwnSt w base zeroSV zeroSt :=
  ⟨World.ownsRow_nil _ _ _ _, World.ownsRow_nil _ _ _ _, World.ownsRow_nil _ _ _ _, fun i hi => by simp [zeroSt] at hi, fun i j hi => by simp [zeroSt] at hi⟩
theorem zero_rd (w : World) : RdSt w zeroSV zeroSt := (zero_own w w.heap.size).rd
/-- Where the list of an event lies. -/
structure EV where
  oa : Option Addr
  oc : Nat
def EV.arr (y : EV) (e : Ev) : Array Value := #[.int .i8 e.kind, .int .i8 e.field, .int .i64 e.card, .int .i64 e.player, .int .i64 e.other, .int .i64 e.src, .int .i64 e.srcAt, .int .i64 e.dst, .int .i64 e.dstAt, .int .i32 e.was, .int .i32 e.now, .slice y.oa e.order.length y.oc]
def EV.val (y : EV) (e : Ev) : Value := .agg (y.arr e)
def RdEv (w : World) (y : EV) (e : Ev) : Prop := G.RdS w y.oa 1 e.order.length (i64s e.order)
def OwnEv (w : World) (base : Nat) (y : EV) (e : Ev) : Prop := w.ownsRow base 3 1 (.slice y.oa e.order.length y.oc) e.order.length (i64s e.order)
theorem RdEv.below {w w' : World} {y : EV} {e : Ev} (h : RdEv w y e) (hb : Below w.heap.size w w') : RdEv w' y e := G.RdS.below h hb
theorem OwnEv.below {w w' : World} {base : Nat} {y : EV} {e : Ev} (h : OwnEv w base y e) (hb : Below w.heap.size w w') : OwnEv w' base y e := G.own_below h hb
theorem OwnEv.rd {w : World} {base : Nat} {y : EV} {e : Ev} (h : OwnEv w base y e) : RdEv w y e := G.RdS.of_own h
/-- Numbers as an event's types have them. -/
structure Ev.Fits (e : Ev) : Prop where
  kind : -128 ≤ e.kind ∧ e.kind ≤ 127
  field : -128 ≤ e.field ∧ e.field ≤ 127
  card : -9223372036854775808 ≤ e.card ∧ e.card ≤ 9223372036854775807
  player : -9223372036854775808 ≤ e.player ∧ e.player ≤ 9223372036854775807
  other : -9223372036854775808 ≤ e.other ∧ e.other ≤ 9223372036854775807
  src : -9223372036854775808 ≤ e.src ∧ e.src ≤ 9223372036854775807
  srcAt : -9223372036854775808 ≤ e.srcAt ∧ e.srcAt ≤ 9223372036854775807
  dst : -9223372036854775808 ≤ e.dst ∧ e.dst ≤ 9223372036854775807
  dstAt : -9223372036854775808 ≤ e.dstAt ∧ e.dstAt ≤ 9223372036854775807
  was : -2147483648 ≤ e.was ∧ e.was ≤ 2147483647
  now : -2147483648 ≤ e.now ∧ e.now ≤ 2147483647
end Go.Proofs.YtmhklnjmeoeanaaGreatDoor.D

/- What the regions of the laws hold: a state in a box, an event that lies in a row, a deed in a box. -/
import Derived.Test.YtofgmijmhpmabaaGreatDoorDShuf
import Derived.Test.YtofgmijmhpmabaaGreatDoorDDeeds
import Derived.Test.YtofgmijmhpmabaaGreatDoorDLives
import Derived.Test.YtofgmijmhpmabaaGreatDoorDOneEv
import Derived.Test.YtofgmijmhpmabaaGreatDoorDAsked
import Derived.Test.YtofgmijmhpmabaaGreatDoorDSame
import Derived.Test.YtofgmijmhpmabaaGreatDoorDLawM
import Derived.Deep.CutRange
namespace Go.Proofs.YtofgmijmhpmabaaGreatDoor.D
open Go Go.RowKit
set_option linter.unusedVariables false
set_option linter.unusedSimpArgs false
theorem may_small {s : St} (h : May s) : s.zones.length ≤ 16 ∧ s.cards.length ≤ 256 ∧ s.players.length ≤ 4 := by
  have := h.zn
  have := h.n4
  exact ⟨by omega, h.m256, h.n4⟩
theorem moveEv_range {s : St} {card zn : Int} {first : Bool} (h : May s) (hc : Within card s.cards.length) (hz : Within zn s.zones.length) : ∀ e ∈ moveEv s card zn first, e.Fits ∧ e.order = [] := by
  obtain ⟨p1, p2, p3⟩ := place_ok h hc
  obtain ⟨b1, b2, b3⟩ := may_small h
  have b4 := may_zone h (zoneOf s.zones card)
  have b5 : (zone s zn).length ≤ 256 := may_zone h zn.toNat
  obtain ⟨c1, c2⟩ := hc
  obtain ⟨z1, z2⟩ := hz
  intro e he
  unfold moveEv at he
  simp only at he
  obtain ⟨dst, hdst⟩ : ∃ dst : Int, dst = if first = true then 0 else if (zoneOf s.zones card : Int) = zn then ((zone s zn).length : Int) - 1 else (zone s zn).length := ⟨_, rfl⟩
  have hd : -1 ≤ dst ∧ dst ≤ 256 := by
    rw [hdst]
    split
    · omega
    · split <;> omega
  rw [← hdst] at he
  by_cases hne : (zoneOf s.zones card : Int) = zn ∧ (atOf s.zones card : Int) = dst
  · rw [if_pos hne] at he
    cases he
  · rw [if_neg hne] at he
    obtain rfl := List.mem_singleton.1 he
    exact ⟨by constructor <;> simp [zeroEv] <;> omega, rfl⟩
theorem getF_within {s : St} {f n x : Int} (h : getF s f n = some x) : Within n s.cards.length ∨ Within n s.players.length := by
  unfold getF at h
  split at h
  · split at h
    · rename_i h1
      exact .inl h1.2
    · cases h
  · split at h
    · rename_i h1
      exact .inr h1.2
    · cases h
theorem changeEv_range {s : St} {f num b : Int} (h : May s) (hf : -128 ≤ f ∧ f ≤ 127) : ∀ e ∈ changeEv s f num b, e.Fits ∧ e.order = [] := by
  obtain ⟨b1, b2, b3⟩ := may_small h
  intro e he
  unfold changeEv at he
  split at he
  · cases he
  · rename_i was hg
    split at he
    · cases he
    · obtain rfl := List.mem_singleton.1 he
      obtain ⟨s1, s2⟩ := getF_stat h hg
      obtain ⟨t1, t2⟩ := clamp_stat (was + b)
      have hn : -1 ≤ num ∧ num ≤ 256 := by
        rcases getF_within hg with ⟨a, c⟩ | ⟨a, c⟩ <;> omega
      unfold changeOne
      split
      · exact ⟨by constructor <;> simp [zeroEv] <;> omega, rfl⟩
      · exact ⟨by constructor <;> simp [zeroEv] <;> omega, rfl⟩
theorem shufEv_range {s : St} {z : Int} {order : List Int} (h : May s) (hz : Within z s.zones.length) : ∀ e ∈ shufEv z order, e.Fits ∧ e.order = order := by
  obtain ⟨b1, b2, b3⟩ := may_small h
  obtain ⟨z1, z2⟩ := hz
  intro e he
  unfold shufEv at he
  split at he
  · cases he
  · obtain rfl := List.mem_singleton.1 he
    exact ⟨by constructor <;> simp [zeroEv] <;> omega, rfl⟩
theorem outEv_range {s : St} {p : Int} (h : May s) (hp : Within p s.players.length) : ∀ e ∈ outEv s p, e.Fits ∧ e.order = [] := by
  obtain ⟨b1, b2, b3⟩ := may_small h
  obtain ⟨z1, z2⟩ := hp
  intro e he
  unfold outEv at he
  split at he
  · cases he
  · obtain rfl := List.mem_singleton.1 he
    exact ⟨by constructor <;> simp [zeroEv] <;> omega, rfl⟩
theorem drawEv_range {s : St} {p : Int} (h : May s) (hp : Within p s.players.length) : ∀ e ∈ drawEv s p, e.Fits ∧ e.order = [] := by
  intro e he
  unfold drawEv at he
  split at he
  · cases he
  · rename_i c l hz
    obtain ⟨h0, h1⟩ := hp
    have hzn := h.zn
    have hlt : (4 * p).toNat < s.zones.length := by omega
    unfold zone at hz
    refine moveEv_range h (place_in h (z := (4 * p).toNat) (a := 0) hlt (by rw [hz]; simp) (by rw [hz]; rfl)) ⟨by omega, by omega⟩ e he
theorem askEv_range {s : St} {d : Dq} (h : May s) (ho : askOk s d) (hf : -128 ≤ d.field ∧ d.field ≤ 127) (hl : d.order.length ≤ 33554432) : ∀ e ∈ askEv s d, e.Fits ∧ e.order.length ≤ 33554432 := by
  have key : ∀ l : List Ev, (∀ e ∈ l, e.Fits ∧ e.order = []) → ∀ e ∈ l, e.Fits ∧ e.order.length ≤ 33554432 := fun l hh e he => ⟨(hh e he).1, by rw [(hh e he).2]; simp⟩
  unfold askOk at ho
  unfold askEv
  by_cases k0 : d.kind = 0
  · rw [if_pos k0] at ho ⊢
    exact key _ (moveEv_range h ho.1 ho.2)
  · rw [if_neg k0] at ho ⊢
    by_cases k1 : d.kind = 1
    · rw [if_pos k1] at ho ⊢
      exact key _ (changeEv_range h hf)
    · rw [if_neg k1] at ho ⊢
      by_cases k2 : d.kind = 2
      · rw [if_pos k2] at ho ⊢
        intro e he
        obtain ⟨a, b⟩ := shufEv_range h ho.1 e he
        exact ⟨a, by rw [b]; exact hl⟩
      · rw [if_neg k2] at ho ⊢
        by_cases k3 : d.kind = 3
        · rw [if_pos k3]
          exact key _ (drawEv_range h ho)
        · rw [if_neg k3]
          exact key _ (outEv_range h ho)
end Go.Proofs.YtofgmijmhpmabaaGreatDoor.D
namespace Go.Proofs.YtofgmijmhpmabaaGreatDoor.D
open Go Go.RowKit
set_option linter.unusedVariables false
set_option linter.unusedSimpArgs false
def EvG (b : Nat) (ce : Array Value) (w : World) : Prop := (loadVar 30 ⟨b, 0, none⟩).run Tryz.prog w = .ok (.agg ce) w ∧ ∀ j v, ce[j]? = some v → w.cell? ⟨b, j, none⟩ = some v
theorem EvG.mk {b : Nat} {ce : Array Value} {w : World} (hs : ce.size = 12) (h : ∀ j v, ce[j]? = some v → w.cell? ⟨b, j, none⟩ = some v) : EvG b ce w := by
  obtain ⟨fs, hfs⟩ := undEv
  exact ⟨run_loadVar_cells w b _ _ _ h hfs rfl (by rw [hs]; exact sizeEv), h⟩
theorem EvG.lt {b : Nat} {ce : Array Value} {w : World} (h : EvG b ce w) (hs : ce.size = 12) : b < w.heap.size := World.block_lt_of_cell? _ _ (h.2 0 _ (Array.getElem?_eq_getElem (by omega)))
theorem EvG.below {b : Nat} {ce : Array Value} {w w' : World} (hs : ce.size = 12) (h : EvG b ce w) (hb : Below w.heap.size w w') : EvG b ce w' :=
  EvG.mk hs fun j v hv => (hb.cell (p := ⟨b, j, none⟩) (World.block_lt_of_cell? _ _ (h.2 j v hv))).trans (h.2 j v hv)
theorem EvG.row {b g : Nat} {ce cs : Array Value} {w : World} (hs : ce.size = 12) (h : EvG b ce w) (hne : g ≠ b) : EvG b ce (w.setRow g cs) :=
  EvG.mk hs fun j v hv => (World.cell?_of_block (a := ⟨b, j, none⟩) (setRow_other w g b cs (Ne.symm hne))).trans (h.2 j v hv)
/-- A state in a box, an event in a row. -/
structure LwS (B : World) (gx : Nat) (cx : Array Value) (b : Nat) (ce : Array Value) (w : World) : Prop where
  bl : Below B.heap.size B w
  bx : G.Blk w gx 27 cx
  be : EvG b ce w
  sx : cx.size = 7
  se : ce.size = 12
  lx : gx < B.heap.size
  lb : b < B.heap.size
theorem LwS.below {B : World} {gx b : Nat} {cx ce : Array Value} {w w' : World} (h : LwS B gx cx b ce w) (hb : Below w.heap.size w w') : LwS B gx cx b ce w' := ⟨G.bl_trans h.bl hb, h.bx.below hb h.bx.lt, h.be.below h.se hb, h.sx, h.se, h.lx, h.lb⟩
theorem LwS.row {B : World} {gx b g2 : Nat} {cx ce ds : Array Value} {w : World} (h : LwS B gx cx b ce w) (hg : B.heap.size ≤ g2) : LwS B gx cx b ce (w.setRow g2 ds) :=
  ⟨below_setRow h.bl hg _, (setRow_other w g2 gx ds (by have := h.lx; omega)).trans h.bx, h.be.row h.se (by have := h.lb; omega), h.sx, h.se, h.lx, h.lb⟩
theorem undDo : ∃ fs, Tryz.prog.underlying 80 = some (.struct fs) := by
  have hu : (Tryz.prog.underlying 80).map (fun d => match d with | .struct _ => true | _ => false) = some true := by kernel_rfl
  cases hx : Tryz.prog.underlying 80 with
  | none => rw [hx] at hu; simp at hu
  | some d =>
    rw [hx] at hu
    cases d <;> simp at hu
    exact ⟨_, rfl⟩
theorem sizeDo : (Tryz.prog.info? 80).map (·.size) = some 7 := by kernel_rfl
theorem run_do {w : World} {g : Nat} {cd : Array Value} (hg : G.Blk w g 80 cd) (hs : cd.size = 7) : (loadVar 80 ⟨g, 0, none⟩).run Tryz.prog w = .ok (.agg cd) w := by
  obtain ⟨fs, hfs⟩ := undDo
  exact run_loadVar_row w g _ _ cd (0, 0) _ hg hfs rfl (by rw [hs]; exact sizeDo)
/-- A state in a box, a deed in a box. -/
structure TwD (B : World) (gx : Nat) (cx : Array Value) (gd : Nat) (cd : Array Value) (w : World) : Prop where
  bl : Below B.heap.size B w
  bx : G.Blk w gx 27 cx
  bd : G.Blk w gd 80 cd
  sx : cx.size = 7
  sd : cd.size = 7
  lx : gx < B.heap.size
  ld : gd < B.heap.size
theorem TwD.below {B : World} {gx gd : Nat} {cx cd : Array Value} {w w' : World} (h : TwD B gx cx gd cd w) (hb : Below w.heap.size w w') : TwD B gx cx gd cd w' := ⟨G.bl_trans h.bl hb, h.bx.below hb h.bx.lt, h.bd.below hb h.bd.lt, h.sx, h.sd, h.lx, h.ld⟩
theorem OwnEvs.zero {w : World} {base : Nat} {A : Option Addr} {n c : Nat} (h : OwnEvs w base A n c []) : n = 0 := by
  have := h.s.1
  simp [flatE] at this
  omega
theorem OwnEvs.one {w : World} {base : Nat} {A : Option Addr} {n c : Nat} {p : EV × Ev} (h : OwnEvs w base A n c [p]) : n = 1 ∧ ∃ b, A = some ⟨b, 0, none⟩ ∧ EvG b (p.1.arr p.2) w ∧ RdEv w p.1 p.2 := by
  have h1 := h.s.1
  rw [flatE_length] at h1
  simp at h1
  obtain rfl : n = 1 := by omega
  obtain ⟨g, cap, e, _⟩ := G.own_addr h.s (by omega)
  simp only [Value.slice.injEq, true_and] at e
  obtain ⟨rfl, _⟩ := e
  obtain ⟨b, off, e2, hr⟩ := (G.RdS.of_own h.s).2 (by omega)
  simp only [Option.some.injEq, Addr.mk.injEq, and_true] at e2
  obtain ⟨rfl, rfl⟩ := e2
  have ef : flatE [p] = (p.1.arr p.2).toList := by simp [flatE, cellsE]
  rw [ef] at hr
  refine ⟨rfl, g, rfl, EvG.mk rfl fun j v hv => ?_, (h.o 0 (by omega)).rd⟩
  have hj := (Array.getElem?_eq_some_iff.1 hv).1
  have h5 := hr.2 j (by rw [Array.length_toList]; exact hj)
  rw [Nat.zero_add] at h5
  rw [h5, List.getD_eq_getElem?_getD, Array.getElem?_toList, hv]
  rfl
theorem list_one {L : List (EV × Ev)} (h : L.length ≤ 1) : L = [] ∨ ∃ p, L = [p] := by
  match L, h with
  | [], _ => exact .inl rfl
  | [p], _ => exact .inr ⟨p, rfl⟩
  | _ :: _ :: _, h => exact absurd h (by simp)
end Go.Proofs.YtofgmijmhpmabaaGreatDoor.D

/- The rows of a state in a variable: how they read, what is written to them. -/
import Derived.Test.YtofgmijmhpmabaaGreatDoorDIns
import Derived.Test.YtofgmijmhpmabaaGreatDoorDTurn
import Derived.Test.YtofgmijmhpmabaaGreatDoorDThere
import Derived.Deep.RegionHeld3
namespace Go.Proofs.YtofgmijmhpmabaaGreatDoor.D
open Go Go.RowKit
set_option linter.unusedVariables false
set_option linter.unusedSimpArgs false
theorem own_n {w : World} {b e sz n m : Nat} {v : Value} {xs : List Value} (h : w.ownsRow b e sz v n xs) (hn : n = m) : w.ownsRow b e sz v m xs := hn ▸ h
theorem moveS_yes {s s2 : St} {card : Int} {si sa di da : Nat} {l : List Int} (h2 : ((si : Nat) : Int) < s.zones.length) (h4 : ((di : Nat) : Int) < s.zones.length) (h5 : ¬ (((si : Nat) : Int) = ((di : Nat) : Int) ∧ ((sa : Nat) : Int) = ((da : Nat) : Int)))
    (k2 : sa < (s.zones.getD ((si : Nat) : Int).toNat []).length) (k3 : (s.zones.getD ((si : Nat) : Int).toNat []).getD ((sa : Nat) : Int).toNat 0 = card) (k5 : ((da : Nat) : Int) ≤ if ((si : Nat) : Int) = ((di : Nat) : Int) then ((s.zones.getD ((di : Nat) : Int).toNat []).length : Int) - 1 else ((s.zones.getD ((di : Nat) : Int).toNat []).length : Int))
    (hs2 : s2 = { s with zones := s.zones.set si ((s.zones.getD si []).eraseIdx sa) }) (hl : l = s2.zones.getD di []) : moveS s card si sa di da = some { s2 with zones := s2.zones.set di (l.insertIdx da card) } := by
  have hk : MoveOk s card si sa di da := ⟨⟨by omega, h2⟩, ⟨by omega, h4⟩, h5, ⟨by omega, by unfold zone; omega⟩, k3, by omega, k5⟩
  unfold moveS
  rw [if_pos hk, hl, hs2]
  unfold moveZ
  simp only [Int.toNat_natCast]
/-- A row of the state, as the walk reads it. -/
theorem StAt.row {w : World} {g base i : Nat} {x : SV} {s : St} (h : StAt w g base x s) (hi : i < s.zones.length) :
    ∃ gz a k, x.za = some ⟨gz, 0, none⟩ ∧ base ≤ gz ∧ x.rows.getD i undef = .slice a (s.zones.getD i []).length k ∧ w.cell? ⟨gz, i, none⟩ = some (.slice a (s.zones.getD i []).length k) ∧ w.frozen? ⟨gz, i, none⟩ = false ∧ (0 < (s.zones.getD i []).length → ∃ gr, a = some ⟨gr, 0, none⟩ ∧ ∀ j, j < (s.zones.getD i []).length → w.cell? ⟨gr, j, none⟩ = some (.int .i64 ((s.zones.getD i []).getD j 0))) := by
  have hz := h.own.z
  obtain ⟨gz, cz, hzv, hgz, hnc, cur, hgg⟩ := G.own_addr hz (by omega)
  simp only [Value.slice.injEq, true_and] at hzv
  obtain ⟨hza, hzc⟩ := hzv
  have hr := h.own.rows i hi
  obtain ⟨a, k, hv⟩ := G.own_shape hr
  rw [hza] at hz
  have hrl := rows_len h.own
  have hc : x.rows[i]? = some (x.rows.getD i undef) := by rw [getD_lt (by omega)]; exact List.getElem?_eq_getElem (by omega)
  have hcell := own_cells hz hc
  rw [hv] at hcell
  refine ⟨gz, a, k, hza, hgz, hv, hcell, hz.frozenAt i, fun hpos => ?_⟩
  rw [hv] at hr
  obtain ⟨gr, cr, hrv, _⟩ := G.own_addr hr hpos
  simp only [Value.slice.injEq, true_and] at hrv
  obtain ⟨rfl, rfl⟩ := hrv
  refine ⟨gr, rfl, fun j hj => own_cells hr ?_⟩
  unfold i64s
  rw [List.getElem?_map, List.getElem?_eq_getElem hj, getD_lt hj]
  rfl
def FrZ (g gz n zc : Nat) (w' : World) : Prop := w'.cell? ⟨g, 2, none⟩ = some (.slice (some ⟨gz, 0, none⟩) n zc)
theorem FrZ.set {g gz n zc i : Nat} {w' : World} {v : Value} (h : FrZ g gz n zc w') (hne : gz ≠ g) : FrZ g gz n zc (w'.setCell ⟨gz, i, none⟩ v) := (World.cell?_setCell_far w' ⟨gz, i, none⟩ ⟨g, 2, none⟩ v hne).trans h
theorem FrZ.alloc {g gz n zc : Nat} {w' : World} (h : FrZ g gz n zc w') (o : Obj) : FrZ g gz n zc (w'.alloc o) := (World.cell?_alloc_some w' ⟨g, 2, none⟩ o (by rw [show w'.cell? ⟨g, 2, none⟩ = _ from h]; rfl)).trans h
theorem StAt.gne {w : World} {g base gz : Nat} {x : SV} {s : St} (h : StAt w g base x s) (hza : x.za = some ⟨gz, 0, none⟩) : gz ≠ g := by
  intro e
  obtain ⟨c, hc⟩ := G.ownsRow.block_e h.own.z (show (Value.slice x.za s.zones.length x.zc).ownBlock = some gz by rw [hza]; rfl)
  have hb := h.blk
  unfold G.Blk at hb
  rw [e, hb] at hc
  simp only [Option.some.injEq, Obj.cells.injEq] at hc
  exact absurd hc.2.1 (by decide)
/-- A row has been written to, or made anew: what stands between that and its being laid into the list of rows. -/
theorem StAt.mid {w w1 : World} {g base i gz : Nat} {x : SV} {s : St} (h : StAt w g base x s) (hi : i < s.zones.length) (hza : x.za = some ⟨gz, 0, none⟩) (hg1 : w.grownBy w1 (x.rows.getD i undef).ownBlock) :
    w1.cell? ⟨g, 2, none⟩ = some (.slice (some ⟨gz, 0, none⟩) s.zones.length x.zc) ∧ w1.cell? ⟨gz, i, none⟩ = some (x.rows.getD i undef) ∧ w1.frozen? ⟨gz, i, none⟩ = false := by
  have hb := (h.own.but i).wrote hi (h.own.rows i hi) hg1
  have hk := blk_far h.blk (h.own.rows i hi) hg1 (by decide)
  have hz := hb.z
  rw [hza] at hz
  have hrl := rows_len h.own
  refine ⟨?_, own_cells hz (by rw [getD_lt (by omega)]; exact List.getElem?_eq_getElem (by omega)), hz.frozenAt i⟩
  have := hk.cell 2
  rw [this, ← hza]
  rfl
theorem StAt.rowput {w w1 : World} {g base i gz : Nat} {x : SV} {s : St} {v1 : Value} {l : List Int} (h : StAt w g base x s) (hi : i < s.zones.length) (hza : x.za = some ⟨gz, 0, none⟩) (ho1 : w1.ownsRow base 3 1 v1 l.length (i64s l))
    (hg1 : w.grownBy w1 (x.rows.getD i undef).ownBlock) (hb1 : ∀ q, v1.ownBlock = some q → (x.rows.getD i undef).ownBlock = some q ∨ w.heap.size ≤ q) :
    StAt (w1.setCell ⟨gz, i, none⟩ v1) g base { x with rows := x.rows.set i v1 } { s with zones := s.zones.set i l } := by
  have hb := (h.own.but i).wrote hi (h.own.rows i hi) hg1
  have hk := blk_far h.blk (h.own.rows i hi) hg1 (by decide)
  have hzz := hb.z
  refine ⟨?_, hb.zset hi hza ho1 fun j hj hn => ?_, h.ge⟩
  · have hk2 := blk_far hk hzz (by rw [hza] at hzz ⊢; exact (hzz.stored i v1).2) (by decide)
    simpa [SV.arr] using hk2
  · cases hvj : (x.rows.getD j undef).ownBlock with
    | none => exact .inl rfl
    | some q =>
      refine .inr fun e => ?_
      rcases hb1 q e.symm with h1 | h1
      · rcases h.own.apart j i hj hi hn with h2 | h2
        · rw [hvj] at h2; cases h2
        · exact h2 (by rw [hvj, h1])
      · have := ((h.own.rows j hj).lt q hvj).2
        omega
theorem StAt.rowbl {w w1 : World} {g base i gz : Nat} {x : SV} {s : St} {v1 : Value} (h : StAt w g base x s) (hi : i < s.zones.length) (hza : x.za = some ⟨gz, 0, none⟩) (hg1 : w.grownBy w1 (x.rows.getD i undef).ownBlock) : Below base w (w1.setCell ⟨gz, i, none⟩ v1) := by
  have hlt := h.blk.lt
  have hge := h.ge
  have h1 : Below base w w1 := (Below.refl _ _).grown hg1 (by omega) fun q hq => ((h.own.rows i hi).lt q hq).1
  have hz := h.own.z
  have h2 := (hz.lt gz (by rw [hza]; rfl)).1
  exact h1.setCell h2 _
end Go.Proofs.YtofgmijmhpmabaaGreatDoor.D

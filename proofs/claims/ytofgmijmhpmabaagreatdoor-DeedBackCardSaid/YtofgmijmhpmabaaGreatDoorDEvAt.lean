/- An event of a list, loaded whole. -/
import Derived.Test.YtofgmijmhpmabaaGreatDoorDOne
import Derived.Test.YtofgmijmhpmabaaGreatDoorDLawM
namespace Go.Proofs.YtofgmijmhpmabaaGreatDoor.D
open Go Go.RowKit
set_option linter.unusedVariables false
set_option linter.unusedSimpArgs false
theorem run_loadVar_at {P : Program} (w : World) (g off : Nat) (ty : TypeId) (cs : Array Value) (d : TypeDesc) (hg : ∀ j v, cs[j]? = some v → w.cell? ⟨g, off + j, none⟩ = some v)
    (hu : P.underlying ty = some d) (hd : (match d with | .struct _ | .array _ _ => true | _ => false) = true) (hi : (P.info? ty).map (·.size) = some cs.size) :
    (loadVar ty ⟨g, off, none⟩).run P w = .ok (.agg cs) w := by
  have hl : (loadCells ⟨g, off, none⟩ cs.toList.length).run P w = .ok cs.toList.toArray w :=
    run_loadCells_list (P := P) w ⟨g, off, none⟩ cs.toList (fun j v hv => by
      rw [Addr.add_lit]
      exact hg j v (by simpa using hv))
  cases hq : P.info? ty with
  | none => simp [hq] at hi
  | some i =>
    have hs : i.size = cs.size := by simpa [hq] using hi
    have hagg : (isAgg ty).run P w = .ok true w := by
      unfold isAgg
      rw [Sem.run_bind, run_underlying hu w]
      cases d <;> simp_all
    simp only [Array.length_toList, Array.toArray_toList] at hl
    simp [loadVar, Sem.run_bind, hagg, sizeOf, typeInfo, hq, hs, hl]
theorem wpList_load_run {P : Program} {ops : Array Oper} {rest : List Oper} {o : Oper} {a : Act} {w : World} {Q : Exit → Act → World → Prop} (hw : Region.wanted o (yielded ops a.tmps) = true) (ty : TypeId) (x : Operand) (ho : o.op = .load ty x)
    (g off : Nat) (hx : a.eval x = .pointer (some ⟨g, off, none⟩)) (cs : Array Value) (hr : (loadVar ty ⟨g, off, none⟩).run P w = .ok (.agg cs) w)
    (h : wpList P ops Q rest (a.put o.dst (.agg cs)) w) : wpList P ops Q (o :: rest) a w :=
  wpList_step fun K hK => by
    simp only [hw, if_true]
    unfold Oper.wp execOp
    simp only [ho, hx, Instr.loadAt, Instr.sureAddr, Sem.run_bind, Sem.run_pure, Result.andThen_ok, hr]
    exact hK _ _ h
/-- The event at a place of a list. -/
theorem ev_whole {w : World} {A : Option Addr} {n : Nat} {L : List (EV × Ev)} (h : RdEvs w A n L) {k : Nat} (hk : k < n) :
    ∃ b off, A = some ⟨b, off, none⟩ ∧ b < w.heap.size ∧ (loadVar 30 ⟨b, off + k * 12, none⟩).run Tryz.prog w = .ok (.agg ((L.getD k zeroP).1.arr (L.getD k zeroP).2)) w ∧ RdEv w (L.getD k zeroP).1 (L.getD k zeroP).2 ∧
      ∀ j v, ((L.getD k zeroP).1.arr (L.getD k zeroP).2)[j]? = some v → w.cell? ⟨b, off + k * 12 + j, none⟩ = some v := by
  obtain ⟨b, off, e, hr⟩ := h.s.2 (by omega)
  have hl := h.len
  have hc : ∀ j v, ((L.getD k zeroP).1.arr (L.getD k zeroP).2)[j]? = some v → w.cell? ⟨b, off + k * 12 + j, none⟩ = some v := fun j v hv => by
    have hj : j < 12 := (Array.getElem?_eq_some_iff.1 hv).1
    have h1 := hr.2 (k * 12 + j) (by rw [flatE_length]; omega)
    have h2 : (flatE L).getD (k * 12 + j) undef = (cellsE (L.getD k zeroP)).getD j undef := G.flat_getD cellsE 12 (fun _ => rfl) zeroP L k j (by omega) hj
    rw [h2] at h1
    rw [Nat.add_assoc, h1, List.getD_eq_getElem?_getD]
    unfold cellsE
    rw [Array.getElem?_toList, hv]
    rfl
  obtain ⟨fs, hfs⟩ := undEv
  exact ⟨b, off, e, hr.1, run_loadVar_at w b _ _ _ _ hc hfs rfl sizeEv, h.o k hk, hc⟩
theorem st_results3 {fn : Func} {p q r : Tmp} (h : fn.results = #[.cell p 27, .tmp q, .tmp r]) (tmps : Array Value) (w : World) (g : Nat) (cs : Array Value) (v u : Value) (hp : tmps.getD p undef = .pointer (some ⟨g, 0, none⟩)) (hq : tmps.getD q undef = v) (hr : tmps.getD r undef = u) (hg : w.heap[g]? = some (.cells cs 27 (0, 0))) (hs : cs.size = 7) :
    (results fn tmps).run Tryz.prog w = .ok (.tuple #[.agg cs, v, u]) w := by
  have hp' : tmps[p]?.getD undef = .pointer (some ⟨g, 0, none⟩) := by simpa using hp
  have hq' : tmps[q]?.getD undef = v := by simpa using hq
  have hr' : tmps[r]?.getD undef = u := by simpa using hr
  simp [results, h, hp', hq', hr', asAddr, run_st hg hs]
theorem getD_snd (L : List (EV × Ev)) (k : Nat) : (L.map Prod.snd).getD k zeroEv = (L.getD k zeroP).2 := by
  rw [List.getD_eq_getElem?_getD, List.getD_eq_getElem?_getD, List.getElem?_map]
  cases L[k]? <;> rfl
end Go.Proofs.YtofgmijmhpmabaaGreatDoor.D

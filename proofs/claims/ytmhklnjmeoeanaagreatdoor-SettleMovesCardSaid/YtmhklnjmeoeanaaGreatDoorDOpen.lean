/- A state, an event as arguments, opened: what they read as, and how great they may be. -/
import Derived.Test.YtmhklnjmeoeanaaGreatDoorDLawM
import Derived.Test.YtmhklnjmeoeanaaGreatDoorDMem
import Derived.ProofKit
import Derived.ChangeArms
import Derived.OpenShut
import Derived.Deep.Matrix
namespace Go.Proofs.YtmhklnjmeoeanaaGreatDoor.D
open Go Go.RowKit Go.ChangeShapes Go.WideShapes Go.Deep
set_option linter.unusedVariables false
set_option linter.unusedSimpArgs false
theorem all_append_le {l m : List Nat} {k : Nat} (h : (l ++ m).all (· ≤ k) = true) : l.all (· ≤ k) = true ∧ m.all (· ≤ k) = true := by
  rwa [List.all_append, Bool.and_eq_true] at h
theorem weightsAll_mem {H : Type} {P : Program} {e : TypeId} {k : Nat} : ∀ {l : List (DataW H)}, (DataW.weightsAll P e l).all (· ≤ k) = true → ∀ d ∈ l, (d.weights P e).all (· ≤ k) = true
  | [], _, d, hd => by cases hd
  | a :: l, h, d, hd => by
    unfold DataW.weightsAll at h
    obtain ⟨h1, h2⟩ := all_append_le h
    rcases List.mem_cons.1 hd with rfl | hd
    · exact h1
    · exact weightsAll_mem h2 d hd
theorem weightsEach_at {H : Type} {P : Program} {k : Nat} : ∀ {ts : List TypeId} {ds : List (DataW H)}, (DataW.weightsEach P ts ds).all (· ≤ k) = true → ∀ (j : Nat) (t : TypeId) (d : DataW H), ts[j]? = some t → ds[j]? = some d → (d.weights P t).all (· ≤ k) = true
  | [], _, _, j, t, d, ht, _ => by simp at ht
  | _ :: _, [], _, j, t, d, _, hd => by simp at hd
  | t0 :: ts, d0 :: ds, h, 0, t, d, ht, hd => by
    unfold DataW.weightsEach at h
    simp at ht hd
    subst ht hd
    exact (all_append_le h).1
  | t0 :: ts, d0 :: ds, h, j + 1, t, d, ht, hd => by
    unfold DataW.weightsEach at h
    exact weightsEach_at (all_append_le h).2 j t d (by simpa using ht) (by simpa using hd)
section
variable {H : Type} {enc : TypeId × Value → H} {P : Program} {w : World} {base : Nat} {spare : Nat → Bool} {held : Bool}
/-- A struct of one-cell fields, by value. -/
theorem open_struct {r : Reach} {b0 : Nat} {t : TypeId} {fs : Array Field} {v : Value} {d : DataW H} {p : List MemPlace} (hs : P.underlying t = some (.struct fs)) (hone : oneCellFields P fs = true) (hC : P.cellsOf t = fs.size)
    (hv : Value.okWide P w r b0 t v) (h : DataW.Trod enc P w base spare held t v d p) :
    ∃ (cs : Array Value) (ys : List (DataW H × List MemPlace)) (n : Nat), v = .agg cs ∧ cs.size = fs.size ∧ ys.length = fs.size ∧ d = .agg (ys.map (·.1)) ∧ p = ys.flatMap (·.2) ∧
      ∀ (j : Nat) (f : Field), fs[j]? = some f → ∃ c y, cs[j]? = some c ∧ ys[j]? = some y ∧ DataW.trod enc P w base spare held n f.type [c] = some y := by
  obtain ⟨cs, rfl, hsz⟩ := okWide_struct hs hv
  obtain ⟨fuel, hf⟩ := h
  obtain ⟨xs, n, _, hx, _, hlen, hg⟩ := DataW.trod_struct hs hf
  simp only [Prod.mk.injEq] at hx
  refine ⟨cs, xs, n, rfl, hsz.trans hC, hlen, hx.1, hx.2, fun j f hj => ?_⟩
  obtain ⟨ho, hk⟩ := hone_of hone j f hj
  have hjl : j < fs.size := (Array.getElem?_eq_some_iff.1 hj).1
  have hcl : j < cs.size := by rw [hsz, hC]; exact hjl
  have h1 := hg j f hj
  rw [ho, hk] at h1
  have hone' : ((Value.agg cs).cells.toList.drop j).take 1 = [cs[j]'hcl] := by
    rw [show (Value.agg cs).cells = cs from rfl, List.drop_eq_getElem_cons (by simpa using hcl)]
    simp
  rw [hone'] at h1
  have hys : xs[j]? = some (xs[j]'(by omega)) := List.getElem?_eq_getElem (by omega)
  exact ⟨_, _, Array.getElem?_eq_getElem hcl, hys, h1.trans hys⟩
end
/-! ### Lists -/
noncomputable def fieldsPl : Array Field := ((Tryz.prog.underlying 44).map fun | .struct fs => fs | _ => #[]).getD #[]
theorem undPl : Tryz.prog.underlying 44 = some (.struct fieldsPl) := by kernel_rfl
theorem onePl : oneCellFields Tryz.prog fieldsPl = true := by kernel_rfl
theorem cellsPl : Tryz.prog.cellsOf 44 = fieldsPl.size := by kernel_rfl
theorem sizePl : fieldsPl.size = 3 := by kernel_rfl
theorem typesPl : fieldsPl.toList.map (·.type) = [21, 21, 4] := by kernel_rfl
theorem typePl (j : Nat) (hj : j < 3) : ∃ f, fieldsPl[j]? = some f ∧ f.type = [21, 21, 4].getD j 0 := by
  have hl : j < fieldsPl.size := by rw [sizePl]; exact hj
  refine ⟨fieldsPl[j], Array.getElem?_eq_getElem hl, ?_⟩
  rw [← typesPl, List.getD_eq_getElem?_getD, List.getElem?_map, Array.getElem?_toList, Array.getElem?_eq_getElem hl]
  rfl
theorem bytesPl : Tryz.prog.bytesOf 44 = 12 := by kernel_rfl
set_option maxRecDepth 100000 in
set_option maxHeartbeats 1000000 in
theorem open_Pl {H : Type} {enc : TypeId × Value → H} {w : World} {fuel : Nat} {v : Value} {x : DataW H × List MemPlace}
    (hf : DataW.trod enc Tryz.prog w 0 (fun _ => true) true fuel 22 [v] = some x) (hwt : (DataW.weights Tryz.prog 22 x.1).all (· ≤ reachBytes) = true) :
    ∃ A c, ∃ xs : List Pl, v = .slice A xs.length c ∧ G.RdS w A 3 xs.length (flatP xs) ∧ xs.length ≤ 140737488355328 := by
  rcases G.open_slice_fields Tryz.underlying22 undPl onePl cellsPl hf with ⟨hcs, hx⟩ | ⟨a, len, cap, m, D, Ps, hcs, _, hl, hm, hmm, hx, hi⟩
  · simp only [List.cons.injEq, and_true] at hcs
    subst hcs
    exact ⟨none, 0, [], rfl, G.RdS.nil _, by simp⟩
  · simp only [List.cons.injEq, and_true] at hcs
    subst hcs
    simp only [if_true] at hmm
    subst hmm
    subst hx
    unfold DataW.weights at hwt
    rw [Tryz.underlying22] at hwt
    simp only [List.all_cons, Bool.and_eq_true, bytesPl, List.length_map, List.length_range, decide_eq_true_eq] at hwt
    obtain ⟨hsz, _⟩ := hwt
    have hreach : reachBytes = 140737488351232 := rfl
    have hlen : len ≤ 140737488355328 := by rw [hreach] at hsz; omega
    have key : ∀ i, i < len → ∃ x : Pl, ∀ j, j < 3 → w.cell? (a.add (i * 3 + j)) = some (x.cells.getD j undef) := by
      intro i hil
      obtain ⟨ys, n, hD, _, hyl, hfield⟩ := hi i (by omega)
      rw [sizePl] at hyl hfield
      have get : ∀ j, j < 3 → ∃ v y, w.cell? (a.add (i * 3 + j)) = some v ∧ ys[j]? = some y ∧ DataW.trod enc Tryz.prog w 0 (fun _ => true) true n ([21, 21, 4].getD j 0) [v] = some y := by
        intro j hj
        obtain ⟨f, hf1, hf2⟩ := typePl j hj
        obtain ⟨v, y, e1, e2, e3⟩ := hfield j f hf1
        exact ⟨v, y, e1, e2, hf2 ▸ e3⟩
      obtain ⟨v0, y0, c0, e0, t0⟩ := get 0 (by omega)
      obtain ⟨v1, y1, c1, e1, t1⟩ := get 1 (by omega)
      obtain ⟨v2, y2, c2, e2, t2⟩ := get 2 (by omega)
      obtain ⟨z0, hz0, _, _⟩ := DataW.trod_int Tryz.underlying21 t0
      obtain ⟨z1, hz1, _, _⟩ := DataW.trod_int Tryz.underlying21 t1
      obtain ⟨z2, hz2, _⟩ := DataW.trod_bool Tryz.underlying4 t2
      simp only [List.cons.injEq, and_true] at hz0 hz1 hz2
      subst hz0 hz1 hz2
      refine ⟨⟨z0, z1, z2⟩, fun j hj => ?_⟩
      match j, hj with
      | 0, _ => exact c0
      | 1, _ => exact c1
      | 2, _ => exact c2
    obtain ⟨xs, hxl, hxs⟩ := G.list_of zeroPl _ len key
    refine ⟨some a, m, xs, by rw [hxl], ⟨by rw [flatP_length], fun h0 => ?_⟩, by rw [hxl]; exact hlen⟩
    have h00 := hxs 0 (by omega) 0 (by omega)
    obtain ⟨b, off, rfl⟩ := G.plain_addr h00 (by omega)
    have hbW : b < w.heap.size := World.block_lt_of_cell? _ _ (by rw [Addr.add_lit] at h00; exact h00)
    refine ⟨b, off, rfl, ?_⟩
    exact G.rdV_structs (f := Pl.cells) (sz := 3) (fun _ => rfl) zeroPl hbW rfl (fun i hi j hj => by
      have h := hxs i (by omega) j hj
      rw [Addr.add_lit] at h
      exact h)
noncomputable def fieldsCd : Array Field := ((Tryz.prog.underlying 39).map fun | .struct fs => fs | _ => #[]).getD #[]
theorem undCd : Tryz.prog.underlying 39 = some (.struct fieldsCd) := by kernel_rfl
theorem oneCd : oneCellFields Tryz.prog fieldsCd = true := by kernel_rfl
theorem cellsCd : Tryz.prog.cellsOf 39 = fieldsCd.size := by kernel_rfl
theorem sizeCd : fieldsCd.size = 6 := by kernel_rfl
theorem typesCd : fieldsCd.toList.map (·.type) = [3, 3, 21, 21, 21, 21] := by kernel_rfl
theorem typeCd (j : Nat) (hj : j < 6) : ∃ f, fieldsCd[j]? = some f ∧ f.type = [3, 3, 21, 21, 21, 21].getD j 0 := by
  have hl : j < fieldsCd.size := by rw [sizeCd]; exact hj
  refine ⟨fieldsCd[j], Array.getElem?_eq_getElem hl, ?_⟩
  rw [← typesCd, List.getD_eq_getElem?_getD, List.getElem?_map, Array.getElem?_toList, Array.getElem?_eq_getElem hl]
  rfl
theorem bytesCd : Tryz.prog.bytesOf 39 = 32 := by kernel_rfl
set_option maxRecDepth 100000 in
set_option maxHeartbeats 1000000 in
theorem open_Cd {H : Type} {enc : TypeId × Value → H} {w : World} {fuel : Nat} {v : Value} {x : DataW H × List MemPlace}
    (hf : DataW.trod enc Tryz.prog w 0 (fun _ => true) true fuel 23 [v] = some x) (hwt : (DataW.weights Tryz.prog 23 x.1).all (· ≤ reachBytes) = true) :
    ∃ A c, ∃ xs : List Cd, v = .slice A xs.length c ∧ G.RdS w A 6 xs.length (flatC xs) ∧ xs.length ≤ 140737488355328 := by
  rcases G.open_slice_fields Tryz.underlying23 undCd oneCd cellsCd hf with ⟨hcs, hx⟩ | ⟨a, len, cap, m, D, Ps, hcs, _, hl, hm, hmm, hx, hi⟩
  · simp only [List.cons.injEq, and_true] at hcs
    subst hcs
    exact ⟨none, 0, [], rfl, G.RdS.nil _, by simp⟩
  · simp only [List.cons.injEq, and_true] at hcs
    subst hcs
    simp only [if_true] at hmm
    subst hmm
    subst hx
    unfold DataW.weights at hwt
    rw [Tryz.underlying23] at hwt
    simp only [List.all_cons, Bool.and_eq_true, bytesCd, List.length_map, List.length_range, decide_eq_true_eq] at hwt
    obtain ⟨hsz, _⟩ := hwt
    have hreach : reachBytes = 140737488351232 := rfl
    have hlen : len ≤ 140737488355328 := by rw [hreach] at hsz; omega
    have key : ∀ i, i < len → ∃ x : Cd, ∀ j, j < 6 → w.cell? (a.add (i * 6 + j)) = some (x.cells.getD j undef) := by
      intro i hil
      obtain ⟨ys, n, hD, _, hyl, hfield⟩ := hi i (by omega)
      rw [sizeCd] at hyl hfield
      have get : ∀ j, j < 6 → ∃ v y, w.cell? (a.add (i * 6 + j)) = some v ∧ ys[j]? = some y ∧ DataW.trod enc Tryz.prog w 0 (fun _ => true) true n ([3, 3, 21, 21, 21, 21].getD j 0) [v] = some y := by
        intro j hj
        obtain ⟨f, hf1, hf2⟩ := typeCd j hj
        obtain ⟨v, y, e1, e2, e3⟩ := hfield j f hf1
        exact ⟨v, y, e1, e2, hf2 ▸ e3⟩
      obtain ⟨v0, y0, c0, e0, t0⟩ := get 0 (by omega)
      obtain ⟨v1, y1, c1, e1, t1⟩ := get 1 (by omega)
      obtain ⟨v2, y2, c2, e2, t2⟩ := get 2 (by omega)
      obtain ⟨v3, y3, c3, e3, t3⟩ := get 3 (by omega)
      obtain ⟨v4, y4, c4, e4, t4⟩ := get 4 (by omega)
      obtain ⟨v5, y5, c5, e5, t5⟩ := get 5 (by omega)
      obtain ⟨z0, hz0, _, _⟩ := DataW.trod_int Tryz.underlying3 t0
      obtain ⟨z1, hz1, _, _⟩ := DataW.trod_int Tryz.underlying3 t1
      obtain ⟨z2, hz2, _, _⟩ := DataW.trod_int Tryz.underlying21 t2
      obtain ⟨z3, hz3, _, _⟩ := DataW.trod_int Tryz.underlying21 t3
      obtain ⟨z4, hz4, _, _⟩ := DataW.trod_int Tryz.underlying21 t4
      obtain ⟨z5, hz5, _, _⟩ := DataW.trod_int Tryz.underlying21 t5
      simp only [List.cons.injEq, and_true] at hz0 hz1 hz2 hz3 hz4 hz5
      subst hz0 hz1 hz2 hz3 hz4 hz5
      refine ⟨⟨z0, z1, z2, z3, z4, z5⟩, fun j hj => ?_⟩
      match j, hj with
      | 0, _ => exact c0
      | 1, _ => exact c1
      | 2, _ => exact c2
      | 3, _ => exact c3
      | 4, _ => exact c4
      | 5, _ => exact c5
    obtain ⟨xs, hxl, hxs⟩ := G.list_of zeroCd _ len key
    refine ⟨some a, m, xs, by rw [hxl], ⟨by rw [flatC_length], fun h0 => ?_⟩, by rw [hxl]; exact hlen⟩
    have h00 := hxs 0 (by omega) 0 (by omega)
    obtain ⟨b, off, rfl⟩ := G.plain_addr h00 (by omega)
    have hbW : b < w.heap.size := World.block_lt_of_cell? _ _ (by rw [Addr.add_lit] at h00; exact h00)
    refine ⟨b, off, rfl, ?_⟩
    exact G.rdV_structs (f := Cd.cells) (sz := 6) (fun _ => rfl) zeroCd hbW rfl (fun i hi j hj => by
      have h := hxs i (by omega) j hj
      rw [Addr.add_lit] at h
      exact h)
set_option maxRecDepth 100000 in
theorem weight_row {H : Type} {A : Option Addr} {L : Nat} {Z : List Int} {k : Nat} (hL : L ≤ Z.length) (ha : A ≠ none) (h : (DataW.weights Tryz.prog 35 (intRow (H := H) .i64 A L Z)).all (· ≤ k) = true) : L * 8 ≤ k := by
  cases A with
  | none => exact absurd rfl ha
  | some a =>
    unfold intRow DataW.weights at h
    rw [Tryz.underlying35] at h
    simp only [List.all_cons, Bool.and_eq_true, show Tryz.prog.bytesOf 3 = 8 by kernel_rfl, lits, List.length_map, List.length_take, List.length_drop, decide_eq_true_eq] at h
    have h1 := h.1
    omega
set_option maxRecDepth 100000 in
set_option maxHeartbeats 1000000 in
theorem open_rows {H : Type} {enc : TypeId × Value → H} {w : World} {fuel : Nat} {v : Value} {x : DataW H × List MemPlace}
    (hf : DataW.trod enc Tryz.prog w 0 (fun _ => true) true fuel 24 [v] = some x) (hwt : (DataW.weights Tryz.prog 24 x.1).all (· ≤ reachBytes) = true) :
    ∃ A c, ∃ (zs : List (List Int)) (rows : List Value), v = .slice A zs.length c ∧ G.RdS w A 1 zs.length rows ∧ (∀ i, i < zs.length → RdRow w (rows.getD i undef) (zs.getD i [])) ∧ zs.length ≤ 140737488355328 ∧ ∀ i, (zs.getD i []).length ≤ 140737488355328 := by
  have hreach : reachBytes = 140737488351232 := rfl
  rcases open_int_rows Tryz.underlying24 Tryz.underlying35 Tryz.underlying3 (by kernel_rfl) (by kernel_rfl) hf with ⟨hcs, hx⟩ | ⟨a, len, cap, A, L, C, Z, hcs, _, hl, hm, hx, hr⟩
  · simp only [List.cons.injEq, and_true] at hcs
    subst hcs
    exact ⟨none, 0, [], [], rfl, G.RdS.nil _, fun i hi => by simp at hi, by simp, fun i => by simp⟩
  · simp only [List.cons.injEq, and_true] at hcs
    subst hcs
    subst hx
    unfold DataW.weights at hwt
    rw [Tryz.underlying24] at hwt
    simp only [List.all_cons, Bool.and_eq_true, show Tryz.prog.bytesOf 35 = 24 by kernel_rfl, List.length_map, List.length_range, decide_eq_true_eq] at hwt
    obtain ⟨hsz, hel⟩ := hwt
    obtain ⟨hel, _⟩ := all_append_le hel
    have hlen : len ≤ 140737488355328 := by rw [hreach] at hsz; omega
    have hrow : ∀ r, r < len → L r ≤ 140737488355328 := fun r hrl => by
      obtain ⟨_, h1, _, h3, _, h4, _⟩ := hr r (by omega)
      cases hA : A r with
      | none => have := h4 hA; omega
      | some b =>
        have hw := weightsAll_mem hel (intRow .i64 (A r) (L r) (Z r)) (List.mem_map.2 ⟨r, List.mem_range.2 hrl, rfl⟩)
        have := weight_row (H := H) (by omega) (by rw [hA]; simp) hw
        rw [hreach] at this
        omega
    refine ⟨some a, cap, (List.range len).map (fun r => (Z r).take (L r)), (List.range len).map (fun r => .slice (A r) (L r) (C r)), by simp, ⟨by simp, fun h0 => ?_⟩, fun i hi => ?_, by simpa using hlen, fun i => ?_⟩
    · have hl0 : 0 < len := by simpa using h0
      have h00 := (hr 0 (by omega)).1
      obtain ⟨b, off, rfl⟩ := G.plain_addr h00 rfl
      have hbW : b < w.heap.size := World.block_lt_of_cell? _ _ (by rw [Addr.add_lit] at h00; exact h00)
      refine ⟨b, off, rfl, hbW, fun j hj => ?_⟩
      have hjl : j < len := by simpa using hj
      have h := (hr j (by omega)).1
      rw [Addr.add_lit] at h
      rw [h]
      simp [List.getD_eq_getElem?_getD, hjl]
    · have hil : i < len := by simpa using hi
      obtain ⟨_, h1, _, h3, _, h4, h5⟩ := hr i (by omega)
      have e1 : ((List.range len).map (fun r => (Z r).take (L r))).getD i [] = (Z i).take (L i) := by simp [List.getD_eq_getElem?_getD, hil]
      have e2 : ((List.range len).map (fun r => Value.slice (A r) (L r) (C r))).getD i undef = .slice (A i) (L i) (C i) := by simp [List.getD_eq_getElem?_getD, hil]
      have hll : ((Z i).take (L i)).length = L i := by rw [List.length_take]; omega
      rw [e1, e2]
      refine ⟨A i, C i, by rw [hll], by rw [i64s_length]; omega, fun h0 => ?_⟩
      rw [hll] at h0
      cases hA : A i with
      | none => have := h4 hA; omega
      | some b =>
        obtain ⟨_, hc⟩ := h5 b hA
        have hc0 := hc 0 (by omega)
        obtain ⟨bb, off, rfl⟩ := G.plain_addr hc0 rfl
        have hbW : bb < w.heap.size := World.block_lt_of_cell? _ _ (by rw [Addr.add_lit] at hc0; exact hc0)
        refine ⟨bb, off, rfl, hbW, fun j hj => ?_⟩
        rw [i64s_length, hll] at hj
        have h := hc j (by omega)
        rw [Addr.add_lit] at h
        rw [h]
        simp [i64s, List.getD_eq_getElem?_getD, List.getElem?_take, hj, show j < (Z i).length by omega]
    · by_cases hi : i < len
      · have := hrow i hi
        have hz := (hr i (by omega)).2.2.2.1
        have h1 := (hr i (by omega)).2.1
        rw [show ((List.range len).map (fun r => (Z r).take (L r))).getD i [] = (Z i).take (L i) by simp [List.getD_eq_getElem?_getD, hi], List.length_take]
        omega
      · rw [List.getD_eq_getElem?_getD, List.getElem?_eq_none (by simpa using hi)]
        simp
noncomputable def fieldsState : Array Field := ((Tryz.prog.underlying 27).map fun | .struct fs => fs | _ => #[]).getD #[]
theorem undStateF : Tryz.prog.underlying 27 = some (.struct fieldsState) := by kernel_rfl
theorem oneState : oneCellFields Tryz.prog fieldsState = true := by kernel_rfl
theorem cellsState : Tryz.prog.cellsOf 27 = fieldsState.size := by kernel_rfl
theorem sizeStateF : fieldsState.size = 7 := by kernel_rfl
theorem typesState : fieldsState.toList.map (·.type) = [22, 23, 24, 21, 3, 25, 3] := by kernel_rfl
theorem typeState (j : Nat) (hj : j < 7) : ∃ f, fieldsState[j]? = some f ∧ f.type = [22, 23, 24, 21, 3, 25, 3].getD j 0 := by
  have hl : j < fieldsState.size := by rw [sizeStateF]; exact hj
  refine ⟨fieldsState[j], Array.getElem?_eq_getElem hl, ?_⟩
  rw [← typesState, List.getD_eq_getElem?_getD, List.getElem?_map, Array.getElem?_toList, Array.getElem?_eq_getElem hl]
  rfl
noncomputable def fieldsEvent : Array Field := ((Tryz.prog.underlying 37).map fun | .struct fs => fs | _ => #[]).getD #[]
theorem undEventF : Tryz.prog.underlying 37 = some (.struct fieldsEvent) := by kernel_rfl
theorem oneEvent : oneCellFields Tryz.prog fieldsEvent = true := by kernel_rfl
theorem cellsEvent : Tryz.prog.cellsOf 37 = fieldsEvent.size := by kernel_rfl
theorem sizeEventF : fieldsEvent.size = 12 := by kernel_rfl
theorem typesEvent : fieldsEvent.toList.map (·.type) = [25, 25, 3, 3, 3, 3, 3, 3, 3, 21, 21, 35] := by kernel_rfl
theorem typeEvent (j : Nat) (hj : j < 12) : ∃ f, fieldsEvent[j]? = some f ∧ f.type = [25, 25, 3, 3, 3, 3, 3, 3, 3, 21, 21, 35].getD j 0 := by
  have hl : j < fieldsEvent.size := by rw [sizeEventF]; exact hj
  refine ⟨fieldsEvent[j], Array.getElem?_eq_getElem hl, ?_⟩
  rw [← typesEvent, List.getD_eq_getElem?_getD, List.getElem?_map, Array.getElem?_toList, Array.getElem?_eq_getElem hl]
  rfl
set_option maxRecDepth 100000 in
set_option maxHeartbeats 2000000 in
/-- A state as an argument. -/
theorem open_state {H : Type} {enc : TypeId × Value → H} {w : World} {b0 : Nat} {v : Value} {d : DataW H} {p : List MemPlace} (hv : Value.okWide Tryz.prog w .any b0 27 v) (h : DataW.Trod enc Tryz.prog w 0 (fun _ => true) true 27 v d p)
    (hwt : (DataW.weights Tryz.prog 27 d).all (· ≤ reachBytes) = true) : ∃ (x : SV) (s : St), v = x.val s ∧ RdSt w x s ∧ Sw s := by
  obtain ⟨cs, ys, n, rfl, hcs, hys, rfl, rfl, hf⟩ := open_struct undStateF oneState cellsState hv h
  rw [sizeStateF] at hcs hys
  have hw : (DataW.weightsEach Tryz.prog [22, 23, 24, 21, 3, 25, 3] (ys.map (·.1))).all (· ≤ reachBytes) = true := by
    unfold DataW.weights at hwt
    rw [undStateF] at hwt
    simp only [typesState] at hwt
    exact hwt
  have get : ∀ j, j < 7 → ∃ c y, cs[j]? = some c ∧ ys[j]? = some y ∧ DataW.trod enc Tryz.prog w 0 (fun _ => true) true n ([22, 23, 24, 21, 3, 25, 3].getD j 0) [c] = some y ∧ (y.1.weights Tryz.prog ([22, 23, 24, 21, 3, 25, 3].getD j 0)).all (· ≤ reachBytes) = true := by
    intro j hj
    obtain ⟨f, hf1, hf2⟩ := typeState j hj
    obtain ⟨c, y, e1, e2, e3⟩ := hf j f hf1
    refine ⟨c, y, e1, e2, hf2 ▸ e3, weightsEach_at hw j _ y.1 ?_ (by rw [List.getElem?_map, e2]; rfl)⟩
    rw [List.getD_eq_getElem?_getD, List.getElem?_eq_getElem (by simpa using hj)]
    rfl
  obtain ⟨c0, y0, q0, _, t0, u0⟩ := get 0 (by omega)
  obtain ⟨c1, y1, q1, _, t1, u1⟩ := get 1 (by omega)
  obtain ⟨c2, y2, q2, _, t2, u2⟩ := get 2 (by omega)
  obtain ⟨c3, y3, q3, _, t3, _⟩ := get 3 (by omega)
  obtain ⟨c4, y4, q4, _, t4, _⟩ := get 4 (by omega)
  obtain ⟨c5, y5, q5, _, t5, _⟩ := get 5 (by omega)
  obtain ⟨c6, y6, q6, _, t6, _⟩ := get 6 (by omega)
  obtain ⟨A0, k0, ps, rfl, r0, l0⟩ := open_Pl t0 u0
  obtain ⟨A1, k1, cds, rfl, r1, l1⟩ := open_Cd t1 u1
  obtain ⟨A2, k2, zs, rows, rfl, r2, rr, l2, lr⟩ := open_rows t2 u2
  obtain ⟨z3, hz3, _, _⟩ := DataW.trod_int Tryz.underlying21 t3
  obtain ⟨z4, hz4, _, _⟩ := DataW.trod_int Tryz.underlying3 t4
  obtain ⟨z5, hz5, _, _⟩ := DataW.trod_int Tryz.underlying25 t5
  obtain ⟨z6, hz6, _, _⟩ := DataW.trod_int Tryz.underlying3 t6
  simp only [List.cons.injEq, and_true] at hz3 hz4 hz5 hz6
  subst hz3 hz4 hz5 hz6
  refine ⟨⟨A0, k0, A1, k1, A2, k2, rows⟩, ⟨ps, cds, zs, z3, z4, z5, z6⟩, ?_, ⟨r0, r1, r2, rr⟩, ⟨l0, l1, l2, lr⟩⟩
  unfold SV.val
  congr 1
  refine Array.ext_getElem? fun i => ?_
  match i with
  | 0 => exact q0
  | 1 => exact q1
  | 2 => exact q2
  | 3 => exact q3
  | 4 => exact q4
  | 5 => exact q5
  | 6 => exact q6
  | i + 7 => rw [Array.getElem?_eq_none (by omega)]; rfl
set_option maxRecDepth 100000 in
set_option maxHeartbeats 2000000 in
/-- A list of numbers. -/
theorem open_i64s {H : Type} {enc : TypeId × Value → H} {w : World} {fuel : Nat} {v : Value} {x : DataW H × List MemPlace}
    (hf : DataW.trod enc Tryz.prog w 0 (fun _ => true) true fuel 35 [v] = some x) (hwt : (DataW.weights Tryz.prog 35 x.1).all (· ≤ reachBytes) = true) :
    ∃ A c, ∃ l : List Int, v = .slice A l.length c ∧ G.RdS w A 1 l.length (i64s l) ∧ l.length ≤ 140737488355328 := by
  have hreach : reachBytes = 140737488351232 := rfl
  rcases open_ints Tryz.underlying35 Tryz.underlying3 (by kernel_rfl) hf with ⟨hcs, hx⟩ | ⟨a, len, cap, zs, hcs, _, hl, hm, hz, hx, hcell, _⟩
  · simp only [List.cons.injEq, and_true] at hcs
    subst hcs
    exact ⟨none, 0, [], rfl, G.RdS.nil _, by simp⟩
  · simp only [List.cons.injEq, and_true] at hcs
    subst hcs
    subst hx
    simp only [if_true] at hz
    unfold DataW.weights at hwt
    rw [Tryz.underlying35] at hwt
    simp only [List.all_cons, Bool.and_eq_true, show Tryz.prog.bytesOf 3 = 8 by kernel_rfl, lits, List.length_map, List.length_take, List.length_drop, decide_eq_true_eq] at hwt
    have hw1 := hwt.1
    rw [hreach] at hw1
    have hll : (zs.take len).length = len := by rw [List.length_take]; omega
    refine ⟨some a, cap, zs.take len, by rw [hll], ⟨by rw [i64s_length]; omega, fun h0 => ?_⟩, by omega⟩
    rw [hll] at h0
    have hc0 := hcell 0 (by omega)
    obtain ⟨bb, off, rfl⟩ := G.plain_addr hc0 rfl
    have hbW : bb < w.heap.size := World.block_lt_of_cell? _ _ (by rw [Addr.add_lit] at hc0; exact hc0)
    refine ⟨bb, off, rfl, hbW, fun j hj => ?_⟩
    rw [i64s_length, hll] at hj
    have h := hcell j (by omega)
    rw [Addr.add_lit] at h
    rw [h]
    simp [i64s, List.getD_eq_getElem?_getD, List.getElem?_take, hj, show j < zs.length by omega]
set_option maxRecDepth 100000 in
set_option maxHeartbeats 2000000 in
/-- An event as an argument. -/
theorem open_event {H : Type} {enc : TypeId × Value → H} {w : World} {b0 : Nat} {v : Value} {d : DataW H} {p : List MemPlace} (hv : Value.okWide Tryz.prog w .any b0 37 v) (h : DataW.Trod enc Tryz.prog w 0 (fun _ => true) true 37 v d p)
    (hwt : (DataW.weights Tryz.prog 37 d).all (· ≤ reachBytes) = true) : ∃ (y : EV) (e : Ev), v = y.val e ∧ RdEv w y e ∧ e.Fits ∧ e.order.length ≤ 140737488355328 := by
  obtain ⟨cs, ys, n, rfl, hcs, hys, rfl, rfl, hf⟩ := open_struct undEventF oneEvent cellsEvent hv h
  rw [sizeEventF] at hcs hys
  have hw : (DataW.weightsEach Tryz.prog [25, 25, 3, 3, 3, 3, 3, 3, 3, 21, 21, 35] (ys.map (·.1))).all (· ≤ reachBytes) = true := by
    unfold DataW.weights at hwt
    rw [undEventF] at hwt
    simp only [typesEvent] at hwt
    exact hwt
  have get : ∀ j, j < 12 → ∃ c y, cs[j]? = some c ∧ ys[j]? = some y ∧ DataW.trod enc Tryz.prog w 0 (fun _ => true) true n ([25, 25, 3, 3, 3, 3, 3, 3, 3, 21, 21, 35].getD j 0) [c] = some y ∧ (y.1.weights Tryz.prog ([25, 25, 3, 3, 3, 3, 3, 3, 3, 21, 21, 35].getD j 0)).all (· ≤ reachBytes) = true := by
    intro j hj
    obtain ⟨f, hf1, hf2⟩ := typeEvent j hj
    obtain ⟨c, y, e1, e2, e3⟩ := hf j f hf1
    refine ⟨c, y, e1, e2, hf2 ▸ e3, weightsEach_at hw j _ y.1 ?_ (by rw [List.getElem?_map, e2]; rfl)⟩
    rw [List.getD_eq_getElem?_getD, List.getElem?_eq_getElem (by simpa using hj)]
    rfl
  obtain ⟨c0, y0, q0, _, t0, u0⟩ := get 0 (by omega)
  obtain ⟨c1, y1, q1, _, t1, u1⟩ := get 1 (by omega)
  obtain ⟨c2, y2, q2, _, t2, u2⟩ := get 2 (by omega)
  obtain ⟨c3, y3, q3, _, t3, u3⟩ := get 3 (by omega)
  obtain ⟨c4, y4, q4, _, t4, u4⟩ := get 4 (by omega)
  obtain ⟨c5, y5, q5, _, t5, u5⟩ := get 5 (by omega)
  obtain ⟨c6, y6, q6, _, t6, u6⟩ := get 6 (by omega)
  obtain ⟨c7, y7, q7, _, t7, u7⟩ := get 7 (by omega)
  obtain ⟨c8, y8, q8, _, t8, u8⟩ := get 8 (by omega)
  obtain ⟨c9, y9, q9, _, t9, u9⟩ := get 9 (by omega)
  obtain ⟨c10, y10, q10, _, t10, u10⟩ := get 10 (by omega)
  obtain ⟨c11, y11, q11, _, t11, u11⟩ := get 11 (by omega)
  obtain ⟨z0, hz0, _, f0⟩ := DataW.trod_int Tryz.underlying25 t0
  obtain ⟨z1, hz1, _, f1⟩ := DataW.trod_int Tryz.underlying25 t1
  obtain ⟨z2, hz2, _, f2⟩ := DataW.trod_int Tryz.underlying3 t2
  obtain ⟨z3, hz3, _, f3⟩ := DataW.trod_int Tryz.underlying3 t3
  obtain ⟨z4, hz4, _, f4⟩ := DataW.trod_int Tryz.underlying3 t4
  obtain ⟨z5, hz5, _, f5⟩ := DataW.trod_int Tryz.underlying3 t5
  obtain ⟨z6, hz6, _, f6⟩ := DataW.trod_int Tryz.underlying3 t6
  obtain ⟨z7, hz7, _, f7⟩ := DataW.trod_int Tryz.underlying3 t7
  obtain ⟨z8, hz8, _, f8⟩ := DataW.trod_int Tryz.underlying3 t8
  obtain ⟨z9, hz9, _, f9⟩ := DataW.trod_int Tryz.underlying21 t9
  obtain ⟨z10, hz10, _, f10⟩ := DataW.trod_int Tryz.underlying21 t10
  obtain ⟨A, k, l, rfl, rl, ll⟩ := open_i64s t11 u11
  simp only [List.cons.injEq, and_true] at hz0 hz1 hz2 hz3 hz4 hz5 hz6 hz7 hz8 hz9 hz10
  subst hz0 hz1 hz2 hz3 hz4 hz5 hz6 hz7 hz8 hz9 hz10
  refine ⟨⟨A, k⟩, ⟨z0, z1, z2, z3, z4, z5, z6, z7, z8, z9, z10, l⟩, ?_, rl, ⟨bounds_i8 f0, bounds_i8 f1, bounds_i64 f2, bounds_i64 f3, bounds_i64 f4, bounds_i64 f5, bounds_i64 f6, bounds_i64 f7, bounds_i64 f8, bounds_i32 f9, bounds_i32 f10⟩, ll⟩
  unfold EV.val
  congr 1
  refine Array.ext_getElem? fun i => ?_
  match i with
  | 0 => exact q0
  | 1 => exact q1
  | 2 => exact q2
  | 3 => exact q3
  | 4 => exact q4
  | 5 => exact q5
  | 6 => exact q6
  | 7 => exact q7
  | 8 => exact q8
  | 9 => exact q9
  | 10 => exact q10
  | 11 => exact q11
  | i + 12 => rw [Array.getElem?_eq_none (by omega)]; rfl
end Go.Proofs.YtmhklnjmeoeanaaGreatDoor.D

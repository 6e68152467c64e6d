/- An argument that is a list of nodes, opened: what it reads as, and how great it may be. -/
import Derived.Test.YtamienmbpdbnnaaTLives
import Derived.ProofKit
import Derived.ChangeArms
import Derived.OpenShut
namespace Go.Proofs.Ytamienmbpdbnnaa.T
open Go Go.RowKit Go.ChangeShapes Go.WideShapes Go.Deep
set_option linter.unusedVariables false
set_option linter.unusedSimpArgs false
/-- What a node of an argument fits. -/
structure NdFit (x : Nd) : Prop where
  op : -128 ≤ x.op ∧ x.op ≤ 127
  kind : -128 ≤ x.kind ∧ x.kind ≤ 127
  n : -9223372036854775808 ≤ x.n ∧ x.n ≤ 9223372036854775807
  m : -9223372036854775808 ≤ x.m ∧ x.m ≤ 9223372036854775807
  at_ : -9223372036854775808 ≤ x.at_ ∧ x.at_ ≤ 9223372036854775807
  kids : -9223372036854775808 ≤ x.kids ∧ x.kids ≤ 9223372036854775807
  text : x.text.size ≤ 140737488355328
theorem all_append_le {l m : List Nat} {k : Nat} (h : (l ++ m).all (· ≤ k) = true) : l.all (· ≤ k) = true ∧ m.all (· ≤ k) = true := by
  rwa [List.all_append, Bool.and_eq_true] at h
theorem weightsAll_mem {H : Type} {P : Program} {e : TypeId} {k : Nat} : ∀ {l : List (DataW H)}, (DataW.weightsAll P e l).all (· ≤ k) = true → ∀ d ∈ l, (d.weights P e).all (· ≤ k) = true
  | [], _, d, hd => by cases hd
  | a :: l, h, d, hd => by
    unfold DataW.weightsAll at h
    obtain ⟨h1, h2⟩ := all_append_le h
    rcases List.mem_cons.1 hd with rfl | hd
    · exact h1
    · exact weightsAll_mem h2 d hd
noncomputable def fieldsNd : Array Field := ((Try.prog.underlying 33).map fun | .struct fs => fs | _ => #[]).getD #[]
theorem undNd : Try.prog.underlying 33 = some (.struct fieldsNd) := by kernel_rfl
theorem oneNd : oneCellFields Try.prog fieldsNd = true := by kernel_rfl
theorem cellsNd : Try.prog.cellsOf 33 = fieldsNd.size := by kernel_rfl
theorem sizeNd : fieldsNd.size = 7 := by kernel_rfl
theorem typesNd : fieldsNd.toList.map (·.type) = [31, 31, 2, 2, 9, 3, 3] := by kernel_rfl
theorem typeNd (j : Nat) (hj : j < 7) : ∃ f, fieldsNd[j]? = some f ∧ f.type = [31, 31, 2, 2, 9, 3, 3].getD j 0 := by
  have hl : j < fieldsNd.size := by rw [sizeNd]; exact hj
  refine ⟨fieldsNd[j], Array.getElem?_eq_getElem hl, ?_⟩
  rw [← typesNd, List.getD_eq_getElem?_getD, List.getElem?_map, Array.getElem?_toList, Array.getElem?_eq_getElem hl]
  rfl
theorem bytesNd : Try.prog.bytesOf 33 = 56 := by kernel_rfl
theorem open_nodes {H : Type} {enc : TypeId × Value → H} {w : World} {d : DataW H} {ps : List MemPlace} {v : Value} {base : Nat} (hval : Value.okWide Try.prog w .any base 22 v)
    (h : DataW.Trod enc Try.prog w 0 (fun _ => true) true 22 v d ps) (hwt : (DataW.weights Try.prog 22 d).all (· ≤ reachBytes) = true) (hlt : ∀ x ∈ ps, x.block < w.heap.size) :
    ∃ A c, ∃ xs : List Nd, v = .slice A xs.length c ∧ Src w A xs.length c xs ∧ xs.length ≤ 2513169434916 ∧ ∀ x ∈ xs, NdFit x := by
  obtain ⟨a0, len0, cap0, rfl⟩ := okWide_slice Try.underlying22 hval
  obtain ⟨fuel, hf⟩ := h
  rcases G.open_slice_fields Try.underlying22 undNd oneNd cellsNd hf with ⟨hcs, hx⟩ | ⟨a, len, cap, m, D, Pl, hcs, _, hl, hm, hmm, hx, hi⟩
  · simp [Value.cells] at hcs
    obtain ⟨rfl, rfl, rfl⟩ := hcs
    exact ⟨none, 0, [], rfl, .inl ⟨rfl, rfl, rfl, rfl⟩, by simp, fun x hx => by cases hx⟩
  · simp [Value.cells] at hcs
    obtain ⟨rfl, rfl, rfl⟩ := hcs
    simp only [if_true] at hmm
    subst hmm
    simp only [Prod.mk.injEq] at hx
    obtain ⟨rfl, rfl⟩ := hx
    unfold DataW.weights at hwt
    rw [Try.underlying22] at hwt
    simp only [List.all_cons, Bool.and_eq_true, bytesNd, List.length_map, List.length_range, decide_eq_true_eq] at hwt
    obtain ⟨hsz, hel⟩ := hwt
    obtain ⟨hel, _⟩ := all_append_le hel
    have hreach : reachBytes = 140737488351232 := rfl
    have hlen : len0 ≤ 2513169434916 := by rw [hreach] at hsz; omega
    have key : ∀ i, i < len0 → ∃ x : Nd, NdFit x ∧ ∀ j, j < 7 → w.cell? (a.add (i * 7 + j)) = some (x.cells.getD j undef) := by
      intro i hil
      obtain ⟨ys, n, hD, _, hyl, hfield⟩ := hi i (by omega)
      rw [sizeNd] at hyl hfield
      have hw := weightsAll_mem hel (D i) (List.mem_map.2 ⟨i, List.mem_range.2 hil, rfl⟩)
      rw [hD] at hw
      unfold DataW.weights at hw
      rw [undNd] at hw
      simp only [typesNd] at hw
      have get : ∀ j, j < 7 → ∃ v y, w.cell? (a.add (i * 7 + j)) = some v ∧ ys[j]? = some y ∧ DataW.trod enc Try.prog w 0 (fun _ => true) true n ([31, 31, 2, 2, 9, 3, 3].getD j 0) [v] = some y := by
        intro j hj
        obtain ⟨f, hf1, hf2⟩ := typeNd j hj
        obtain ⟨v, y, e1, e2, e3⟩ := hfield j f hf1
        exact ⟨v, y, e1, e2, hf2 ▸ e3⟩
      obtain ⟨v0, y0, c0, e0, t0⟩ := get 0 (by omega)
      obtain ⟨v1, y1, c1, e1, t1⟩ := get 1 (by omega)
      obtain ⟨v2, y2, c2, e2, t2⟩ := get 2 (by omega)
      obtain ⟨v3, y3, c3, e3, t3⟩ := get 3 (by omega)
      obtain ⟨v4, y4, c4, e4, t4⟩ := get 4 (by omega)
      obtain ⟨v5, y5, c5, e5, t5⟩ := get 5 (by omega)
      obtain ⟨v6, y6, c6, e6, t6⟩ := get 6 (by omega)
      obtain ⟨z0, hz0, _, f0⟩ := DataW.trod_int Try.underlying31 t0
      obtain ⟨z1, hz1, _, f1⟩ := DataW.trod_int Try.underlying31 t1
      obtain ⟨z2, hz2, _, f2⟩ := DataW.trod_int Try.underlying2 t2
      obtain ⟨z3, hz3, _, f3⟩ := DataW.trod_int Try.underlying2 t3
      obtain ⟨s4, hz4, hy4, f4⟩ := DataW.trod_string Try.underlying9 t4
      obtain ⟨z5, hz5, _, f5⟩ := DataW.trod_int Try.underlying3 t5
      obtain ⟨z6, hz6, _, f6⟩ := DataW.trod_int Try.underlying3 t6
      simp only [List.cons.injEq, and_true] at hz0 hz1 hz2 hz3 hz4 hz5 hz6
      subst hz0 hz1 hz2 hz3 hz4 hz5 hz6
      have hstr : s4.size ≤ 140737488355328 := by
        match ys, hyl, e4, hw with
        | [q0, q1, q2, q3, q4, q5, q6], _, e4, hw =>
          simp at e4
          subst e4
          rw [hy4] at hw
          simp only [List.map_cons, List.map_nil] at hw
          unfold DataW.weightsEach at hw
          obtain ⟨_, hw⟩ := all_append_le hw
          unfold DataW.weightsEach at hw
          obtain ⟨_, hw⟩ := all_append_le hw
          unfold DataW.weightsEach at hw
          obtain ⟨_, hw⟩ := all_append_le hw
          unfold DataW.weightsEach at hw
          obtain ⟨_, hw⟩ := all_append_le hw
          unfold DataW.weightsEach at hw
          obtain ⟨hw, _⟩ := all_append_le hw
          unfold DataW.weights at hw
          simp only [List.all_cons, List.all_nil, Bool.and_true, decide_eq_true_eq] at hw
          rw [hreach] at hw
          have : s4.size = s4.data.toList.length := by rw [Array.length_toList]; rfl
          omega
      refine ⟨⟨z0, z1, z2, z3, s4, z5, z6⟩, ⟨bounds_i8 f0, bounds_i8 f1, bounds_i64 f2, bounds_i64 f3, bounds_i64 f5, bounds_i64 f6, hstr⟩, ?_⟩
      intro j hj
      match j, hj with
      | 0, _ => exact c0
      | 1, _ => exact c1
      | 2, _ => exact c2
      | 3, _ => exact c3
      | 4, _ => exact c4
      | 5, _ => exact c5
      | 6, _ => exact c6
    obtain ⟨xs, hxl, hxs⟩ := G.list_of zeroNd _ len0 key
    have hrd : G.RdS w (some a) 7 xs.length (flat xs) := by
      refine ⟨by rw [flat_length], fun h0 => ?_⟩
      have h00 := (hxs 0 (by omega)).2 0 (by omega)
      obtain ⟨b, off, rfl⟩ := G.plain_addr h00 (by omega)
      have hbW : b < w.heap.size := World.block_lt_of_cell? _ _ (by rw [Addr.add_lit] at h00; exact h00)
      refine ⟨b, off, rfl, ?_⟩
      exact G.rdV_structs (f := Nd.cells) (sz := 7) (fun _ => rfl) zeroNd hbW rfl (fun i hi j hj => by
        have h := (hxs i (by omega)).2 j hj
        rw [Addr.add_lit] at h
        exact h)
    refine ⟨some a, m, xs, by rw [hxl], .inr ⟨⟨a, rfl⟩, rfl, hrd⟩, by rw [hxl]; exact hlen, fun x hx => ?_⟩
    obtain ⟨i, hi, rfl⟩ := List.getElem_of_mem hx
    have := (hxs i (by omega)).1
    rwa [List.getD_eq_getElem?_getD, List.getElem?_eq_getElem hi] at this
end Go.Proofs.Ytamienmbpdbnnaa.T

/- An argument that is a list of tokens, opened: what it reads as, and how great it may be. -/
import Derived.Test.YtlaikgaepaiigaaGreatDoorKFmt
import Derived.Test.YtlaikgaepaiigaaGreatDoorKSize
import Derived.ProofKit
import Derived.ChangeArms
import Derived.OpenShut
namespace Go.Proofs.YtlaikgaepaiigaaGreatDoor.K
open Go Go.RowKit Go.ChangeShapes Go.WideShapes Go.Deep
set_option linter.unusedVariables false
set_option linter.unusedSimpArgs false
/-- What a token of an argument fits. -/
structure TkFit (x : Tk) : Prop where
  kind : -128 ≤ x.kind ∧ x.kind ≤ 127
  num : -9223372036854775808 ≤ x.num ∧ x.num ≤ 9223372036854775807
  at_ : -9223372036854775808 ≤ x.at_ ∧ x.at_ ≤ 9223372036854775807
  text : x.text.size ≤ 140737488355328
theorem all_append_le {l m : List Nat} {k : Nat} (h : (l ++ m).all (· ≤ k) = true) : l.all (· ≤ k) = true ∧ m.all (· ≤ k) = true := by
  rwa [List.all_append, Bool.and_eq_true] at h
theorem weightsAll_mem {H : Type} {P : Program} {e : TypeId} {k : Nat} : ∀ {l : List (DataW H)}, (DataW.weightsAll P e l).all (· ≤ k) = true → ∀ d ∈ l, (d.weights P e).all (· ≤ k) = true
  | [], _, d, hd => by cases hd
  | a :: l, h, d, hd => by
    unfold DataW.weightsAll at h
    obtain ⟨h1, h2⟩ := all_append_le h
    rcases List.mem_cons.1 hd with rfl | hd
    · exact h1
    · exact weightsAll_mem h2 d hd
noncomputable def fieldsTk : Array Field := ((Tryz.prog.underlying 24).map fun | .struct fs => fs | _ => #[]).getD #[]
theorem undTk : Tryz.prog.underlying 24 = some (.struct fieldsTk) := by kernel_rfl
theorem oneTk : oneCellFields Tryz.prog fieldsTk = true := by kernel_rfl
theorem cellsTk : Tryz.prog.cellsOf 24 = fieldsTk.size := by kernel_rfl
theorem sizeTk : fieldsTk.size = 4 := by kernel_rfl
theorem typesTk : fieldsTk.toList.map (·.type) = [22, 9, 2, 3] := by kernel_rfl
set_option maxRecDepth 100000 in
theorem typeTk (j : Nat) (hj : j < 4) : ∃ f, fieldsTk[j]? = some f ∧ f.type = [22, 9, 2, 3].getD j 0 := by
  have hl : j < fieldsTk.size := by rw [sizeTk]; exact hj
  refine ⟨fieldsTk[j], Array.getElem?_eq_getElem hl, ?_⟩
  rw [← typesTk, List.getD_eq_getElem?_getD, List.getElem?_map, Array.getElem?_toList, Array.getElem?_eq_getElem hl]
  rfl
theorem bytesTk : Tryz.prog.bytesOf 24 = 40 := by kernel_rfl
set_option maxRecDepth 100000 in
set_option maxHeartbeats 1000000 in
theorem open_tokens {H : Type} {enc : TypeId × Value → H} {w : World} {d : DataW H} {ps : List MemPlace} {v : Value} {base : Nat} (hval : Value.okWide Tryz.prog w .any base 29 v)
    (h : DataW.Trod enc Tryz.prog w 0 (fun _ => true) true 29 v d ps) (hwt : (DataW.weights Tryz.prog 29 d).all (· ≤ reachBytes) = true) :
    ∃ A c, ∃ xs : List Tk, v = .slice A xs.length c ∧ G.RdS w A 4 xs.length (flatT xs) ∧ xs.length ≤ 3518437208780 ∧ ∀ x ∈ xs, TkFit x := by
  obtain ⟨a0, len0, cap0, rfl⟩ := okWide_slice Tryz.underlying29 hval
  obtain ⟨fuel, hf⟩ := h
  rcases G.open_slice_fields Tryz.underlying29 undTk oneTk cellsTk hf with ⟨hcs, hx⟩ | ⟨a, len, cap, m, D, Pl, hcs, _, hl, hm, hmm, hx, hi⟩
  · simp [Value.cells] at hcs
    obtain ⟨rfl, rfl, rfl⟩ := hcs
    exact ⟨none, 0, [], rfl, G.RdS.nil _, by simp, fun x hx => by cases hx⟩
  · simp [Value.cells] at hcs
    obtain ⟨rfl, rfl, rfl⟩ := hcs
    simp only [if_true] at hmm
    subst hmm
    simp only [Prod.mk.injEq] at hx
    obtain ⟨rfl, rfl⟩ := hx
    unfold DataW.weights at hwt
    rw [Tryz.underlying29] at hwt
    simp only [List.all_cons, Bool.and_eq_true, bytesTk, List.length_map, List.length_range, decide_eq_true_eq] at hwt
    obtain ⟨hsz, hel⟩ := hwt
    obtain ⟨hel, _⟩ := all_append_le hel
    have hreach : reachBytes = 140737488351232 := rfl
    have hlen : len0 ≤ 3518437208780 := by rw [hreach] at hsz; omega
    have key : ∀ i, i < len0 → ∃ x : Tk, TkFit x ∧ ∀ j, j < 4 → w.cell? (a.add (i * 4 + j)) = some (x.cells.getD j undef) := by
      intro i hil
      obtain ⟨ys, n, hD, _, hyl, hfield⟩ := hi i (by omega)
      rw [sizeTk] at hyl hfield
      have hw := weightsAll_mem hel (D i) (List.mem_map.2 ⟨i, List.mem_range.2 hil, rfl⟩)
      rw [hD] at hw
      unfold DataW.weights at hw
      rw [undTk] at hw
      simp only [typesTk] at hw
      have get : ∀ j, j < 4 → ∃ v y, w.cell? (a.add (i * 4 + j)) = some v ∧ ys[j]? = some y ∧ DataW.trod enc Tryz.prog w 0 (fun _ => true) true n ([22, 9, 2, 3].getD j 0) [v] = some y := by
        intro j hj
        obtain ⟨f, hf1, hf2⟩ := typeTk j hj
        obtain ⟨v, y, e1, e2, e3⟩ := hfield j f hf1
        exact ⟨v, y, e1, e2, hf2 ▸ e3⟩
      obtain ⟨v0, y0, c0, e0, t0⟩ := get 0 (by omega)
      obtain ⟨v1, y1, c1, e1, t1⟩ := get 1 (by omega)
      obtain ⟨v2, y2, c2, e2, t2⟩ := get 2 (by omega)
      obtain ⟨v3, y3, c3, e3, t3⟩ := get 3 (by omega)
      obtain ⟨z0, hz0, _, f0⟩ := DataW.trod_int Tryz.underlying22 t0
      obtain ⟨s1, hz1, hy1, f1⟩ := DataW.trod_string Tryz.underlying9 t1
      obtain ⟨z2, hz2, _, f2⟩ := DataW.trod_int Tryz.underlying2 t2
      obtain ⟨z3, hz3, _, f3⟩ := DataW.trod_int Tryz.underlying3 t3
      simp only [List.cons.injEq, and_true] at hz0 hz1 hz2 hz3
      subst hz0 hz1 hz2 hz3
      have hstr : s1.size ≤ 140737488355328 := by
        match ys, hyl, e1, hw with
        | [q0, q1, q2, q3], _, e1, hw =>
          simp at e1
          subst e1
          rw [hy1] at hw
          simp only [List.map_cons, List.map_nil] at hw
          unfold DataW.weightsEach at hw
          obtain ⟨_, hw⟩ := all_append_le hw
          unfold DataW.weightsEach at hw
          obtain ⟨hw, _⟩ := all_append_le hw
          unfold DataW.weights at hw
          simp only [List.all_cons, List.all_nil, Bool.and_true, decide_eq_true_eq] at hw
          rw [hreach] at hw
          have : s1.size = s1.data.toList.length := by rw [Array.length_toList]; rfl
          omega
      refine ⟨⟨z0, s1, z2, z3⟩, ⟨bounds_i8 f0, bounds_i64 f2, bounds_i64 f3, hstr⟩, ?_⟩
      intro j hj
      match j, hj with
      | 0, _ => exact c0
      | 1, _ => exact c1
      | 2, _ => exact c2
      | 3, _ => exact c3
    obtain ⟨xs, hxl, hxs⟩ := G.list_of zeroTk _ len0 key
    have hrd : G.RdS w (some a) 4 xs.length (flatT xs) := by
      refine ⟨by rw [flatT_length], fun h0 => ?_⟩
      have h00 := (hxs 0 (by omega)).2 0 (by omega)
      obtain ⟨b, off, rfl⟩ := G.plain_addr h00 (by omega)
      have hbW : b < w.heap.size := World.block_lt_of_cell? _ _ (by rw [Addr.add_lit] at h00; exact h00)
      refine ⟨b, off, rfl, ?_⟩
      exact G.rdV_structs (f := Tk.cells) (sz := 4) (fun _ => rfl) zeroTk hbW rfl (fun i hi j hj => by
        have h := (hxs i (by omega)).2 j hj
        rw [Addr.add_lit] at h
        exact h)
    refine ⟨some a, m, xs, by rw [hxl], hrd, by rw [hxl]; exact hlen, fun x hx => ?_⟩
    obtain ⟨i, hi, rfl⟩ := List.getElem_of_mem hx
    have := (hxs i (by omega)).1
    rwa [List.getD_eq_getElem?_getD, List.getElem?_eq_getElem hi] at this
end Go.Proofs.YtlaikgaepaiigaaGreatDoor.K

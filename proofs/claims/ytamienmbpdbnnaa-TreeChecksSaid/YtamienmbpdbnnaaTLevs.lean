/- The stack of levels as it lies in memory; texts of nodes looked at by what their kind names. -/
import Derived.Test.YtamienmbpdbnnaaTKKids
import Derived.Test.YtamienmbpdbnnaaTFree
namespace Go.Proofs.Ytamienmbpdbnnaa.T
open Go Go.RowKit
set_option linter.unusedVariables false
set_option linter.unusedSimpArgs false
theorem shapeGo_pop {f : Lev} (s : List Lev) (i : Nat) (l : List Nd) (h : f.left = 0) : shapeGo (f :: s) i l = shapeGo s i l := by
  have e : popZ (f :: s) = popZ s := by rw [popZ, if_pos h]
  cases l with
  | nil => simp only [shapeGo, e]
  | cons x l => simp only [shapeGo, e]
theorem shapeGo_empty (i : Nat) (x : Nd) (l : List Nd) : shapeGo [] i (x :: l) = i := by simp [shapeGo, popZ]
theorem shapeGo_step {f : Lev} (s : List Lev) (i : Nat) (x : Nd) (l : List Nd) (h : f.left ≠ 0) : shapeGo (f :: s) i (x :: l) = if nodeOk x f.want then shapeGo (levOf x :: f.step :: s) (i + 1) l else i := by
  have e : popZ (f :: s) = f :: s := by rw [popZ, if_neg h]
  simp only [shapeGo, e]
theorem popZ_nil {s : List Lev} : popZ s = [] ↔ ∀ f ∈ s, f.left = 0 := by
  induction s with
  | nil => simp [popZ]
  | cons f s ih =>
    rw [popZ]
    split
    · rename_i h
      rw [ih]
      simp [h]
    · rename_i h
      simp [h]
theorem shapeGo_end (s : List Lev) (i : Nat) : shapeGo s i [] = if ∀ f ∈ s, f.left = 0 then -1 else (i : Int) := by
  simp only [shapeGo]
  by_cases h : ∀ f ∈ s, f.left = 0
  · rw [if_pos h, popZ_nil.2 h]; rfl
  · rw [if_neg h]
    have : popZ s ≠ [] := fun e => h (popZ_nil.1 e)
    cases hp : popZ s with
    | nil => exact absurd hp this
    | cons a l => rfl
/-- A level as three cells. -/
def LvOk (w : World) (vs : List Value) (f : Lev) : Prop :=
  ∃ A L C, vs = [.slice A L C, .int .i64 f.rest, .int .i64 f.left] ∧ f.own.length = L ∧ L ≤ C ∧ C ≤ 3 ∧ G.RdS w A 1 L (ints f.own) ∧ (∀ u ∈ f.own, 0 ≤ u ∧ u ≤ 7) ∧ (0 ≤ f.rest ∧ f.rest ≤ 7) ∧ 0 ≤ f.left ∧ f.left ≤ 9223372036854775807
/-- The stack, the top one last. -/
def Lvs (w : World) : List Lev → List Value → Prop
  | [], xs => xs = []
  | f :: s, xs => ∃ ys top, xs = ys ++ top ∧ LvOk w top f ∧ Lvs w s ys
theorem Lvs.len {w : World} : ∀ {s : List Lev} {xs : List Value}, Lvs w s xs → xs.length = s.length * 3
  | [], xs, h => by rw [show xs = [] from h]; rfl
  | f :: s, xs, ⟨ys, top, e, ⟨A, L, C, et, _⟩, h⟩ => by
    have := Lvs.len h
    rw [e, et, List.length_append, this]
    simp
    omega
theorem Lvs.below {w w' : World} (hb : Below w.heap.size w w') : ∀ {s : List Lev} {xs : List Value}, Lvs w s xs → Lvs w' s xs
  | [], _, h => h
  | f :: s, xs, ⟨ys, top, e, ⟨A, L, C, et, a1, a2, a3, a4, r⟩, h⟩ => ⟨ys, top, e, ⟨A, L, C, et, a1, a2, a3, a4.below hb, r⟩, Lvs.below hb h⟩
/-- What stands at a place of the stack. -/
theorem Lvs.left_at {w : World} : ∀ {s : List Lev} {xs : List Value}, Lvs w s xs → ∀ j, j < s.length → ∃ A L C re f, f ∈ s ∧ xs[j * 3]? = some (.slice A L C) ∧ xs[j * 3 + 1]? = some (.int .i64 re) ∧ xs[j * 3 + 2]? = some (.int .i64 f.left) ∧ 0 ≤ f.left
  | [], _, _, j, hj => by simp at hj
  | f :: s, xs, ⟨ys, top, e, ⟨A, L, C, et, a1, a2, a3, a4, a5, a6, a7, _⟩, h⟩, j, hj => by
    have hl := Lvs.len h
    by_cases hjs : j < s.length
    · obtain ⟨A', L', C', re, f', hf, c0, c1, c2, h0⟩ := Lvs.left_at h j hjs
      refine ⟨A', L', C', re, f', List.mem_cons_of_mem _ hf, ?_, ?_, ?_, h0⟩
      · rw [e, List.getElem?_append_left (by omega)]; exact c0
      · rw [e, List.getElem?_append_left (by omega)]; exact c1
      · rw [e, List.getElem?_append_left (by omega)]; exact c2
    · have hje : j = s.length := by simp at hj; omega
      subst hje
      refine ⟨A, L, C, f.rest, f, by simp, ?_, ?_, ?_, a7⟩
      · rw [e, List.getElem?_append_right (by omega), hl, Nat.sub_self, et]; rfl
      · rw [e, List.getElem?_append_right (by omega), hl, show s.length * 3 + 1 - s.length * 3 = 1 by omega, et]; rfl
      · rw [e, List.getElem?_append_right (by omega), hl, show s.length * 3 + 2 - s.length * 3 = 2 by omega, et]; rfl
theorem Lvs.all_zero {w : World} : ∀ {s : List Lev} {xs : List Value}, Lvs w s xs → (∀ j, j < s.length → xs[j * 3 + 2]? = some (.int .i64 0)) → ∀ f ∈ s, f.left = 0
  | [], _, _, _, f, hf => by cases hf
  | f :: s, xs, ⟨ys, top, e, ⟨A, L, C, et, a⟩, h⟩, hz, f', hf' => by
    have hl := Lvs.len h
    rcases List.mem_cons.1 hf' with rfl | hf'
    · have h1 := hz s.length (by simp)
      rw [e, List.getElem?_append_right (by omega), hl, show s.length * 3 + 2 - s.length * 3 = 2 by omega, et] at h1
      simpa using h1
    · refine Lvs.all_zero h (fun j hj => ?_) f' hf'
      have h1 := hz j (by simp; omega)
      rwa [e, List.getElem?_append_left (by omega)] at h1
theorem own_take_pre {w : World} {base : Nat} {e : TypeId} {sz n m c : Nat} {A : Option Addr} {xs : List Value} (h : w.ownsRow base e sz (.slice A n c) n xs) (hm : m ≤ n) (hc : A ≠ none) : w.ownsRow base e sz (.slice A m c) m (xs.take (m * sz)) := by
  rcases h.2 with ⟨hv, h0⟩ | ⟨g, cap, cur, hv, hb, hgg, hnc, hcc, hcs, ht⟩
  · simp only [Value.slice.injEq] at hv
    exact absurd hv.1 hc
  · simp only [Value.slice.injEq] at hv
    obtain ⟨rfl, _, rfl⟩ := hv
    refine ⟨?_, .inr ⟨g, c, cur, rfl, hb, hgg, by omega, hcc, hcs, ?_⟩⟩
    · have h1 := h.1
      have h2 : m * sz ≤ n * sz := Nat.mul_le_mul_right _ hm
      rw [List.length_take]; omega
    · rw [← ht, List.take_take]
      have h2 : m * sz ≤ n * sz := Nat.mul_le_mul_right _ hm
      congr 1
      omega
/-! ### Texts -/
set_option maxHeartbeats 400000 in
theorem empty_any (s : ByteArray) (w : World) : Calls Try.prog 54 #[.string s] w fun e w' => e = .returned (.bool s.data.toList.isEmpty) ∧ w = w' := by
  by_cases h : s = ⟨#[]⟩
  · subst h
    go_enter Try.func54, Try.ntmps54
    go_wp2
    go_ret
    exact ⟨rfl, rfl⟩
  · have h1 : s.data.toList.isEmpty = false := by
      rw [Bool.eq_false_iff]
      intro e
      exact h (bytes_inj (by simpa using e))
    have h2 : s.toList.isEmpty = false := by rw [ByteArray.toList_eq]; exact h1
    have h3 : (!s.toList.isEmpty) = true := by rw [h2]; rfl
    have h4 : (s.toList == []) = false := by
      rw [ByteArray.toList_eq]
      cases hl : s.data.toList with
      | nil => rw [hl] at h1; cases h1
      | cons a l => rfl
    have H := Lib.hid h1
    clear h h1
    go_enter Try.func54, Try.ntmps54
    go_wp2
    go_ret
    exact ⟨ret_bool H.out.symm, rfl⟩
theorem str_eq {a b : ByteArray} (h : a = b) : (a.toList == b.toList) = true := by subst h; simp
theorem beq_of (a : ByteArray) (l : List UInt8) : (a.data.toList == l) = decide (a = ⟨l.toArray⟩) := by
  rw [Bool.eq_iff_iff]
  simp only [beq_iff_eq, decide_eq_true_eq]
  constructor
  · intro h; exact bytes_inj (by simpa using h)
  · rintro rfl; simp
set_option maxRecDepth 100000 in
set_option maxHeartbeats 1000000 in
theorem orc_any (s : ByteArray) (c g : Nat) (a b : List UInt8) (w0 w : World) (hs : s.size ≤ 140737488355328) (hci : ContIn w0) (hb : Below w0.heap.size w0 w)
    (h1 : G.Blk w c 77 #[.slice (some ⟨g, 0, none⟩) 2 2]) (h2 : G.Blk w g 9 (twoStr a b)) :
    Calls Try.prog 52 #[.string s, .pointer (some ⟨c, 0, none⟩)] w fun e w' => e = .returned (.bool (s.data.toList == a || s.data.toList == b || freeL s.data.toList)) ∧ w = w' := by
  have HF := Lib.hid (isFree_any s w0 w hs hci hb)
  have hc0 : w.cell? ⟨c, 0, none⟩ = some (.slice (some ⟨g, 0, none⟩) 2 2) := h1.cell 0
  have hg0 : w.cell? ⟨g, 0, none⟩ = some (.string ⟨a.toArray⟩) := h2.cell 0
  have hg1 : w.cell? ⟨g, 1, none⟩ = some (.string ⟨b.toArray⟩) := h2.cell 1
  have ha := beq_of s a
  have hbb := beq_of s b
  obtain ⟨sa, hsa⟩ : ∃ x : ByteArray, x = ⟨a.toArray⟩ := ⟨_, rfl⟩
  obtain ⟨sb, hsb⟩ : ∃ x : ByteArray, x = ⟨b.toArray⟩ := ⟨_, rfl⟩
  rw [← hsa] at hg0 ha
  rw [← hsb] at hg1 hbb
  rw [ha, hbb]
  generalize freeL s.data.toList = F at *
  clear h1 h2 hsa hsb hci hb ha hbb
  by_cases e1 : s = sa
  · subst e1
    go_enter Try.func52, Try.ntmps52
    go_wp2
    go_rounds 1
    go_ret
    exact ⟨ret_bool (by simp), rfl⟩
  · have n1 := str_ne e1
    have E1 := Lib.hid (decide_eq_false e1)
    clear e1
    by_cases e2 : s = sb
    · subst e2
      go_enter Try.func52, Try.ntmps52
      go_wp2
      go_rounds 2
      go_ret
      exact ⟨ret_bool (by simp), rfl⟩
    · have n2 := str_ne e2
      have E2 := Lib.hid (decide_eq_false e2)
      clear e2
      go_enter Try.func52, Try.ntmps52
      go_wp2
      go_loop [8] (fun i => ∃ k : Nat, k ≤ 2 ∧ i = .int .i64 k) (fun i => 2 - (intOf i).toNat)
      case atStart => exact ⟨0, by omega, rfl⟩
      case round =>
        obtain ⟨k, hk, rfl⟩ := hrel
        have hk3 : k = 0 ∨ k = 1 ∨ k = 2 := by omega
        rcases hk3 with rfl | rfl | rfl
        · go_wp2
          go_round
          case rel => exact ⟨1, by omega, rfl⟩
          case measure => simp [intOf]
        · go_wp2
          go_round
          case rel => exact ⟨2, by omega, rfl⟩
          case measure => simp [intOf]
        · go_wp2_with (go_at_call 53; refine HF.out.mono ?_; rintro e w1 ⟨rfl, rfl⟩)
          go_ret
          exact ⟨ret_bool (by rw [E1.out, E2.out]; simp), rfl⟩
end Go.Proofs.Ytamienmbpdbnnaa.T

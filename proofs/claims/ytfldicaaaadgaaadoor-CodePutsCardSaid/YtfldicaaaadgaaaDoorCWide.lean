/- The contracts of tableauref00.WideInstrs and SpareInstrs. -/
import Derived.Test.YtfldicaaaadgaaaDoorCEq
import Derived.Test.YtfldicaaaadgaaaDoorApartInstrs
namespace Go.Proofs.YtfldicaaaadgaaaDoor.Code
open Go.RowKit
set_option linter.unusedVariables false
set_option linter.unusedSimpArgs false
theorem mid_splice {F Z us : List Value} {N sz k : Nat} (hF : F.length = N * sz) (hZ : Z.length = N * sz) (hk : k < N) (hu : us.length = sz) (he : (F.drop (k * sz)).take sz = us) :
    (G.mid F Z (k * sz)).take (k * sz) ++ us ++ (G.mid F Z (k * sz)).drop (k * sz + us.length) = G.mid F Z ((k + 1) * sz) := by
  have h1 : (k + 1) * sz ≤ N * sz := Nat.mul_le_mul_right _ hk
  rw [Nat.succ_mul] at h1 ⊢
  have h2 : (F.take (k * sz)).length = k * sz := by rw [List.length_take]; omega
  unfold G.mid
  rw [List.take_left' h2, hu, List.drop_append, h2, List.drop_eq_nil_of_le (by omega), List.nil_append, List.drop_drop, ← he, ← List.take_add]
  congr 2
  omega
def markI (i : Nat) : Ins := ⟨1048576 * 9 + (i : Int) + 1, 0, 0, 0, 0⟩
def marksI (n : Nat) : List Ins := (List.range 64).map fun j => markI (n + j)
def wideI (xs : List Ins) : List Ins := xs ++ marksI xs.length
theorem wideI_length (xs : List Ins) : (wideI xs).length = xs.length + 64 := by simp [wideI, marksI]
theorem wideI_lo (xs : List Ins) {k : Nat} (h : k < xs.length) : (wideI xs).getD k zeroIns = xs.getD k zeroIns := by
  unfold wideI
  rw [List.getD_eq_getElem?_getD, List.getD_eq_getElem?_getD, List.getElem?_append_left h]
theorem wideI_hi (xs : List Ins) {k : Nat} (h : xs.length ≤ k) (h2 : k < xs.length + 64) : (wideI xs).getD k zeroIns = markI k := by
  unfold wideI marksI
  rw [List.getD_eq_getElem?_getD, List.getElem?_append_right h]
  have h3 : k - xs.length < 64 := by omega
  have h4 : xs.length + (k - xs.length) = k := by omega
  simp [h3, h4]
theorem flat_slice (xs : List Ins) {k : Nat} (h : k < xs.length) : ((flat xs).drop (k * 5)).take 5 = (xs.getD k zeroIns).cells := by
  have e : xs = xs.take k ++ xs.getD k zeroIns :: xs.drop (k + 1) := by
    rw [List.getD_eq_getElem?_getD, List.getElem?_eq_getElem h, Option.getD_some, ← List.drop_eq_getElem_cons h, List.take_append_drop]
  have h1 : (flat (xs.take k)).length = k * 5 := by rw [flat_length, List.length_take]; omega
  generalize xs.getD k zeroIns = x at e
  rw [e]
  have h2 : flat (xs.take k ++ x :: xs.drop (k + 1)) = flat (xs.take k) ++ (x.cells ++ flat (xs.drop (k + 1))) := by simp [flat]
  rw [h2, List.drop_left' h1]
  exact List.take_left' rfl
def WideIPost (xs : List Ins) (w : World) (e : Ending) (w' : World) : Prop :=
  e = .returned (.slice (some ⟨w.heap.size, 0, none⟩) xs.length (xs.length + 64)) ∧
    w'.ownsRow w.heap.size 26 5 (.slice (some ⟨w.heap.size, 0, none⟩) (xs.length + 64) (xs.length + 64)) (xs.length + 64) (flat (wideI xs)) ∧ Below w.heap.size w w'
theorem below_set5 {w wr : World} {g p : Nat} (h : Below w.heap.size w wr) (hg : w.heap.size ≤ g) : ∀ (us : List Value), Below w.heap.size w (G.setCells wr g p us) := by
  intro us
  induction us generalizing wr p with
  | nil => exact h
  | cons u us ih => exact ih (Bl.sc h (p := ⟨g, p, none⟩) hg u)
set_option maxHeartbeats 1000000 in
theorem wideInstrs_any (A : Option Addr) (c : Nat) (xs : List Ins) (w : World) (hx : G.RdS w A 5 xs.length (flat xs)) (hn : xs.length ≤ 1099511627776) :
    Calls Tryd.prog 20 #[.slice A xs.length c] w (WideIPost xs w) := by
  obtain ⟨i0, hi, hz0, hz1, hz2⟩ := info_parts G.info26
  have HX := Lib.hid hx
  obtain ⟨n, hn'⟩ : ∃ n, n = xs.length := ⟨_, rfl⟩
  rw [← hn'] at hn ⊢
  have HN := Lib.hid hn'
  clear hx hn'
  go_enter Tryd.func20, Tryd.ntmps20
  go_wp2_with (refine wpList_make_full _ rfl _ _ 30 rfl w.heap.size 26 i0 _ 5 Tryd.underlying30 hi hz0 hz1 .i64 .i64 _ _ (n + 64) rfl rfl (by simp) (by simp) (by rw [hz2]; omega) (by unfold maxLen; omega) (Nat.le_refl _) ?_; intro w1 ho1 hg1)
  have hb1 : Below w.heap.size w w1 := (Below.refl _ _).grown hg1 (Nat.le_refl _) (by simp)
  obtain ⟨Z, hZ⟩ : ∃ Z, Z = (madeCells (Value.agg #[.int .i64 0, .int .u8 0, .int .i64 0, .int .i64 0, .int .i64 0]).cells ((n + 64) * 5)).toList := ⟨_, rfl⟩
  rw [← hZ] at ho1
  have hZl : Z.length = (n + 64) * 5 := by have := ho1.1; exact this
  have HO1 := Lib.hid ho1
  clear ho1 hg1 hZ
  go_wp2
  go_loopw [4] (fun i wr => ∃ k : Nat, k ≤ n + 64 ∧ i = .int .i64 k ∧ Below w.heap.size w wr ∧ wr.ownsRow w.heap.size 26 5 (.slice (some ⟨w.heap.size, 0, none⟩) (n + 64) (n + 64)) (n + 64) (G.mid (flat (wideI xs)) Z (k * 5))) (fun i _ => n + 64 - (intOf i).toNat)
  case atStart => exact ⟨0, Nat.zero_le _, rfl, hb1, by rw [Nat.zero_mul, G.mid_zero]; exact HO1.out⟩
  case round =>
    obtain ⟨k, hk, rfl, hbel, hown⟩ := hrel
    have hF : (flat (wideI xs)).length = (n + 64) * 5 := by rw [flat_length, wideI_length, HN.out]
    by_cases hlt : k < n + 64
    · obtain ⟨u, hu⟩ : ∃ u, u = (wideI xs).getD k zeroIns := ⟨_, rfl⟩
      have hst := G.own_setCells u.cells (p := k * 5) hown (by rw [G.mid_length hF hZl]; simp [Ins.cells]; omega)
      rw [mid_splice hF hZl hlt rfl (by rw [hu]; exact flat_slice _ (by rw [wideI_length, ← HN.out]; exact hlt))] at hst
      have HST := Lib.hid hst
      have HB := Lib.hid (below_set5 (p := k * 5) hbel (Nat.le_refl _) u.cells)
      have h0 : (k : Int) < n + 64 := by omega
      have h1 : (0 : Int) ≤ k := by omega
      refine G.cells5_use hown hlt ?_
      intro y0 y1 y2 y3 y4 c0 c1 c2 c3 c4 f0 f1 f2 f3 f4
      by_cases hkn : k < n
      · have hu2 : u = xs.getD k zeroIns := by rw [hu]; exact wideI_lo xs (by rw [← HN.out]; exact hkn)
        obtain ⟨b, off, hA, hr⟩ := (HX.out.below hbel).2 (by rw [← HN.out]; omega)
        obtain ⟨d0, d1, d2, d3, d4⟩ := ins_at hr (k := k) (by rw [← HN.out]; exact hkn) hu2.symm
        subst hA
        clear hr hst hu hu2 hown hF
        obtain ⟨ua, uo, u1, u2, u3⟩ := u
        simp only at d0 d1 d2 d3 d4
        go_wp2
        go_roundw
        case rel => exact ⟨k + 1, by omega, by go_num, HB.out, HST.out.1⟩
        case measure => simp [intOf] <;> omega
      · have hu2 : u = markI k := by rw [hu]; exact wideI_hi xs (by rw [← HN.out]; omega) (by rw [← HN.out]; exact hlt)
        subst hu2
        clear hst hu hown hF
        go_wp2_with (go_at_call 57; refine (G.num_any 9 k _ (by omega) (by omega)).mono ?_; rintro e wq ⟨rfl, rfl⟩)
        go_roundw
        case rel => exact ⟨k + 1, by omega, by go_num, HB.out, HST.out.1⟩
        case measure => simp [intOf] <;> omega
    · have hkn : k = n + 64 := by omega
      have hown' : wr.ownsRow w.heap.size 26 5 (.slice (some ⟨w.heap.size, 0, none⟩) (n + 64) (n + 64)) (n + 64) (flat (wideI xs)) := by
        rw [hkn, G.mid_full hF hZl] at hown; exact hown
      have HO := Lib.hid hown'
      have h1 : ¬ (k : Int) < n + 64 := by omega
      clear hown hown' hF
      go_wp2
      go_ret
      exact ⟨by rw [← HN.out]; rfl, by rw [← HN.out]; exact HO.out, hbel⟩
set_option maxHeartbeats 1000000 in
theorem spareInstrs_any (g : Nat) (xs : List Ins) (w : World) (hr : G.RdV w g 0 (flat (wideI xs))) (hn : xs.length ≤ 1099511627776) :
    Calls Tryd.prog 24 #[.slice (some ⟨g, 0, none⟩) xs.length (xs.length + 64)] w fun e w' => e = .returned (.bool true) ∧ Below w.heap.size w w' := by
  have HR := Lib.hid hr
  obtain ⟨n, hn'⟩ : ∃ n, n = xs.length := ⟨_, rfl⟩
  rw [← hn'] at hn ⊢
  have HN := Lib.hid hn'
  clear hr hn'
  go_enter Tryd.func24, Tryd.ntmps24
  go_wp2
  go_loopw [4] (fun i wr => ∃ k : Nat, n ≤ k ∧ k ≤ n + 64 ∧ i = .int .i64 k ∧ Below w.heap.size w wr) (fun i _ => n + 64 - (intOf i).toNat)
  case atStart => exact ⟨n, Nat.le_refl _, by omega, rfl, Below.refl _ _⟩
  case round =>
    obtain ⟨k, hk0, hk, rfl, hbel⟩ := hrel
    by_cases hlt : k < n + 64
    · have h0 : (k : Int) < n + 64 := by omega
      have h1 : (0 : Int) ≤ k := by omega
      have hg := HR.out.1
      obtain ⟨d0, d1, d2, d3, d4⟩ := ins_at (HR.out.below hbel) (k := k) (by rw [wideI_length, ← HN.out]; exact hlt) (wideI_hi xs (by rw [← HN.out]; exact hk0) (by rw [← HN.out]; exact hlt))
      rw [Nat.zero_add] at d0 d1 d2 d3 d4
      simp only [markI] at d0 d1 d2 d3 d4
      have hgr : g < wr.heap.size := World.block_lt_of_cell? _ _ d0
      go_wp2
      go_quiet ((go_at_call 57; exact Calls.quiet_of_same (G.num_still 9 k _ (by omega) (by omega))))
      go_wp2
      go_roundw
      case rel => exact ⟨k + 1, by omega, by omega, by go_num, by repeat (first | (with_reducible apply Bl.dn) | (with_reducible apply Bl.al) | (with_reducible exact hbel))⟩
      case measure => simp [intOf] <;> omega
    · have h1 : ¬ (k : Int) < n + 64 := by omega
      go_wp2
      go_ret
      exact ⟨rfl, hbel⟩
end Go.Proofs.YtfldicaaaadgaaaDoor.Code

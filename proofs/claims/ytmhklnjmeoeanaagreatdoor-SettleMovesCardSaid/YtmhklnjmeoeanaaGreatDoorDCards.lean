/- The contracts of tableauref00's EqCards, WideCards, SpareCards. Printed by gen_pc.py. -/
import Derived.Test.YtmhklnjmeoeanaaGreatDoorDMem
import Derived.Lib.Hide
import Derived.Deep.AppendLies
import Derived.Laws.OwnMore
import Derived.OwnWalk
import Derived.Deep.QuietTactic
import Derived.BigQuiet
namespace Go.Proofs.YtmhklnjmeoeanaaGreatDoor.D
open Go Go.RowKit
set_option linter.unusedVariables false
set_option linter.unusedSimpArgs false
theorem num_any (n i : Nat) (w : World) (hn : n ≤ 1024) (hi : i ≤ 2199023255552) : Calls Tryz.prog 80 #[.int .i64 n, .int .i64 i] w fun e w' => e = .returned (.int .i64 (1048576 * (n : Int) + (i : Int) + 1)) ∧ w = w' := by
  go_enter Tryz.func80, Tryz.ntmps80
  go_wp2
  go_ret
  exact ⟨rfl, rfl⟩
theorem num_still (n i : Nat) (w : World) (hn : n ≤ 1024) (hi : i ≤ 2199023255552) : Calls Tryz.prog 80 #[.int .i64 n, .int .i64 i] w fun e w' => e = .returned (.int .i64 (1048576 * (n : Int) + (i : Int) + 1)) ∧ w' = w :=
  (num_any n i w hn hi).mono fun _ _ h => ⟨h.1, h.2.symm⟩
def mid (F Z : List Value) (k : Nat) : List Value := F.take k ++ Z.drop k
theorem mid_zero (F Z : List Value) : mid F Z 0 = Z := by simp [mid]
theorem mid_full {F Z : List Value} {n : Nat} (hF : F.length = n) (hZ : Z.length = n) : mid F Z n = F := by
  unfold mid
  rw [List.take_of_length_le (by omega), List.drop_eq_nil_of_le (by omega), List.append_nil]
theorem mid_length {F Z : List Value} {n k : Nat} (hF : F.length = n) (hZ : Z.length = n) : (mid F Z k).length = n := by
  unfold mid
  rw [List.length_append, List.length_take, List.length_drop]
  omega
theorem mid_splice {F Z us : List Value} {N sz k : Nat} (hF : F.length = N * sz) (hZ : Z.length = N * sz) (hk : k < N) (hu : us.length = sz) (he : (F.drop (k * sz)).take sz = us) :
    (mid F Z (k * sz)).take (k * sz) ++ us ++ (mid F Z (k * sz)).drop (k * sz + us.length) = mid F Z ((k + 1) * sz) := by
  have h1 : (k + 1) * sz ≤ N * sz := Nat.mul_le_mul_right _ hk
  rw [Nat.succ_mul] at h1 ⊢
  have h2 : (F.take (k * sz)).length = k * sz := by rw [List.length_take]; omega
  unfold mid
  rw [List.take_left' h2, hu, List.drop_append, h2, List.drop_eq_nil_of_le (by omega), List.nil_append, List.drop_drop, ← he, ← List.take_add]
  congr 2
  omega
theorem flat_slice_of {α : Type} (f : α → List Value) (sz : Nat) (hf : ∀ x, (f x).length = sz) (d : α) (xs : List α) {k : Nat} (h : k < xs.length) : ((xs.flatMap f).drop (k * sz)).take sz = f (xs.getD k d) := by
  have e : xs = xs.take k ++ xs.getD k d :: xs.drop (k + 1) := by
    rw [List.getD_eq_getElem?_getD, List.getElem?_eq_getElem h, Option.getD_some, ← List.drop_eq_getElem_cons h, List.take_append_drop]
  have h1 : ((xs.take k).flatMap f).length = k * sz := by rw [G.flat_len f sz hf, List.length_take]; congr 1; omega
  generalize xs.getD k d = x at e
  rw [e, List.flatMap_append, List.flatMap_cons, List.drop_left' h1]
  exact List.take_left' (hf x)
theorem take_eq_of {α : Type} (d : α) {xs ys : List α} {k : Nat} (h : xs.take k = ys.take k) (hx : k < xs.length) (hy : k < ys.length) (he : xs.getD k d = ys.getD k d) : xs.take (k + 1) = ys.take (k + 1) := by
  simp only [List.getD_eq_getElem?_getD, List.getElem?_eq_getElem hx, List.getElem?_eq_getElem hy, Option.getD_some] at he
  rw [List.take_succ_eq_append_getElem hx, List.take_succ_eq_append_getElem hy, h, he]
theorem below_sets {w wr : World} {g p : Nat} (h : Below w.heap.size w wr) (hg : w.heap.size ≤ g) : ∀ (us : List Value), Below w.heap.size w (G.setCells wr g p us) := by
  intro us
  induction us generalizing wr p with
  | nil => exact h
  | cons u us ih => exact ih (G.bl_set h (p := ⟨g, p, none⟩) hg u)
/-- A row of structs of the call's own, with others behind them, read as the first ones. -/
theorem own_rd {w : World} {base e sz g N : Nat} {xs ys : List Value} (h : w.ownsRow base e sz (.slice (some ⟨g, 0, none⟩) N N) N (xs ++ ys)) : G.RdV w g 0 xs := by
  rcases h.2 with ⟨hv, _⟩ | ⟨g', cap, cur, hv, hb, hgg, hnc, hc, hcs, ht⟩
  · cases hv
  · simp only [Value.slice.injEq, Option.some.injEq, Addr.mk.injEq, and_true, true_and] at hv
    obtain ⟨rfl, rfl⟩ := hv
    refine ⟨(Array.getElem?_eq_some_iff.1 hgg).1, fun j hj => ?_⟩
    have hl := h.1
    rw [List.length_append] at hl
    rw [Nat.zero_add, h.cellAt j (by omega), List.getElem?_append_left hj, List.getD_eq_getElem?_getD, List.getElem?_eq_getElem hj]
    rfl
theorem own_rd_all {w : World} {base e sz g N : Nat} {xs : List Value} (h : w.ownsRow base e sz (.slice (some ⟨g, 0, none⟩) N N) N xs) : G.RdV w g 0 xs :=
  own_rd (ys := []) (by rw [List.append_nil]; exact h)
theorem cells3_use {Q : Prop} {w : World} {base : Nat} {e : TypeId} {g n cap j : Nat} {xs : List Value} (h : w.ownsRow base e 3 (.slice (some ⟨g, 0, none⟩) n cap) n xs) (hj : j < n)
    (hQ : ∀ y0 y1 y2, w.cell? ⟨g, j * 3, none⟩ = some y0 → w.cell? ⟨g, j * 3 + 1, none⟩ = some y1 → w.cell? ⟨g, j * 3 + 2, none⟩ = some y2 → w.frozen? ⟨g, j * 3, none⟩ = false → w.frozen? ⟨g, j * 3 + 1, none⟩ = false → w.frozen? ⟨g, j * 3 + 2, none⟩ = false → Q) : Q := by
  have hc : ∀ c, c < 3 → w.cell? ⟨g, j * 3 + c, none⟩ = some (xs.getD (j * 3 + c) undef) := fun c hc => by
    rw [h.cellAt _ (by omega), List.getD_eq_getElem?_getD, List.getElem?_eq_getElem (by rw [h.1]; omega)]
    rfl
  exact hQ _ _ _ (hc 0 (by omega)) (hc 1 (by omega)) (hc 2 (by omega)) (h.frozenAt _) (h.frozenAt _) (h.frozenAt _)
set_option maxRecDepth 100000 in
set_option maxHeartbeats 2000000 in
theorem eqPlayers_any (A B : Option Addr) (n m c d : Nat) (xs ys : List Pl) (w : World) (hx : G.RdS w A 3 n (flatP xs)) (hy : G.RdS w B 3 m (flatP ys)) (hn : n ≤ maxLen) (hm : m ≤ maxLen) :
    Calls Tryz.prog 37 #[.slice A n c, .slice B m d] w fun e w' => e = .returned (.bool (decide (xs = ys))) ∧ ∃ k, w' = w.drewN k := by
  have hxl : xs.length = n := by have := hx.1; rw [flatP_length] at this; omega
  have hyl : ys.length = m := by have := hy.1; rw [flatP_length] at this; omega
  unfold maxLen at hn hm
  by_cases hnm : n = m
  · subst hnm
    have HX := Lib.hid hx
    have HY := Lib.hid hy
    have HXL := Lib.hid hxl
    have HYL := Lib.hid hyl
    clear hx hy hxl hyl hm
    go_enter Tryz.func37, Tryz.ntmps37
    go_wp2
    go_loopw [5] (fun i wr => ∃ k : Nat, k ≤ n ∧ i = .int .i64 k ∧ xs.take k = ys.take k ∧ ∃ q, wr = w.drewN q) (fun i _ => n - (intOf i).toNat)
    case atStart => exact ⟨0, Nat.zero_le _, rfl, rfl, 0, rfl⟩
    case round =>
      obtain ⟨k, hk, rfl, htk, q, rfl⟩ := hrel
      have HTK := Lib.hid htk
      clear htk
      by_cases hlt : k < n
      · obtain ⟨b, off, rfl, hb⟩ := HX.out.2 (by omega)
        obtain ⟨b2, off2, rfl, hb2⟩ := HY.out.2 (by omega)
        have h0 : (k : Int) < n := by omega
        have h1 : (0 : Int) ≤ k := by omega
        by_cases he : xs.getD k zeroPl = ys.getD k zeroPl
        · have hsu := Lib.hid (take_eq_of zeroPl HTK.out (by rw [HXL.out]; exact hlt) (by rw [HYL.out]; exact hlt) he)
          obtain ⟨c0, c1, c2⟩ := pl_at hb (k := k) (by rw [HXL.out]; exact hlt) he
          obtain ⟨d0, d1, d2⟩ := pl_at hb2 (k := k) (by rw [HYL.out]; exact hlt) rfl
          clear he hb hb2
          generalize ys.getD k zeroPl = z at *
          obtain ⟨z0, z1, z2⟩ := z
          simp only at c0 c1 c2 d0 d1 d2
          go_wp2
          go_quiet (fail)
          go_wp2
          go_roundw
          case rel => exact ⟨k + 1, by omega, by go_num, hsu.out, _, rfl⟩
          case measure => simp [intOf]; omega
        · have hne : decide (xs = ys) = false := by
            simp only [decide_eq_false_iff_not]
            rintro rfl
            exact he rfl
          have HNE := Lib.hid hne
          obtain ⟨c0, c1, c2⟩ := pl_at hb (k := k) (by rw [HXL.out]; exact hlt) rfl
          obtain ⟨d0, d1, d2⟩ := pl_at hb2 (k := k) (by rw [HYL.out]; exact hlt) rfl
          clear hne hb hb2
          generalize ys.getD k zeroPl = z at *
          generalize xs.getD k zeroPl = y at *
          obtain ⟨z0, z1, z2⟩ := z
          obtain ⟨v0, v1, v2⟩ := y
          simp only [Pl.mk.injEq, not_and] at c0 c1 c2 d0 d1 d2 he
          have hq : (v0 == z0) = false ∨ (v0 = z0 ∧ (v1 == z1) = false) ∨ (v0 = z0 ∧ v1 = z1 ∧ (v2 == z2) = false) := by
            by_cases e0 : v0 = z0
            · by_cases e1 : v1 = z1
              · exact (.inr (.inr ⟨e0, e1, (by simpa using (he e0 e1))⟩))
              · exact (.inr (.inl ⟨e0, (by simpa using e1)⟩))
            · exact (.inl (by simpa using e0))
          clear he
          rcases hq with q0 | ⟨rfl, q1⟩ | ⟨rfl, rfl, q2⟩
          all_goals
            go_wp2
            go_quiet (fail)
            go_wp2
            go_ret
            exact ⟨(ret_bool HNE.out).symm, (by first | exact ⟨_, rfl⟩ | exact ⟨_, World.drewN_drewN ..⟩)⟩
      · have hd : decide (xs = ys) = true := by
          simp only [decide_eq_true_eq]
          have h2 := HTK.out
          rwa [List.take_of_length_le (by rw [HXL.out]; omega), List.take_of_length_le (by rw [HYL.out]; omega)] at h2
        have HD := Lib.hid hd
        clear hd
        go_wp2
        go_ret
        exact ⟨(ret_bool HD.out).symm, _, rfl⟩
  · have hd : decide (xs = ys) = false := by
      simp only [decide_eq_false_iff_not]
      rintro rfl
      omega
    have HD := Lib.hid hd
    clear hd hx hy hxl hyl
    have hnm1 : ((n : Int) == m) = false := by simpa using fun h : (n : Int) = m => hnm (by omega)
    have hnm2 : ((n : Int) != m) = true := by simpa using fun h : (n : Int) = m => hnm (by omega)
    go_enter Tryz.func37, Tryz.ntmps37
    go_wp2
    go_ret
    exact ⟨(ret_bool HD.out).symm, 0, rfl⟩
theorem infoPl : (Tryz.prog.info? 44).map (fun i => (i.zero, i.size, i.bytes)) = some (some (Value.agg #[Value.int .i32 0, Value.int .i32 0, Value.bool false]), 3, 12) := by kernel_rfl
def markPl (i : Nat) : Pl := ⟨1048576 * 9 + (i : Int) + 1, 0, false⟩
def marksPl (n : Nat) : List Pl := (List.range 64).map fun j => markPl (n + j)
def widePl (xs : List Pl) : List Pl := xs ++ marksPl xs.length
theorem widePl_length (xs : List Pl) : (widePl xs).length = xs.length + 64 := by simp [widePl, marksPl]
theorem widePl_lo (xs : List Pl) {k : Nat} (h : k < xs.length) : (widePl xs).getD k zeroPl = xs.getD k zeroPl := by
  unfold widePl
  rw [List.getD_eq_getElem?_getD, List.getD_eq_getElem?_getD, List.getElem?_append_left h]
theorem widePl_hi (xs : List Pl) {k : Nat} (h : xs.length ≤ k) (h2 : k < xs.length + 64) : (widePl xs).getD k zeroPl = markPl k := by
  unfold widePl marksPl
  rw [List.getD_eq_getElem?_getD, List.getElem?_append_right h]
  have h3 : k - xs.length < 64 := by omega
  have h4 : xs.length + (k - xs.length) = k := by omega
  simp [h3, h4]
def WidePlPost (xs : List Pl) (w : World) (e : Ending) (w' : World) : Prop :=
  e = .returned (.slice (some ⟨w.heap.size, 0, none⟩) xs.length (xs.length + 64)) ∧
    w'.ownsRow w.heap.size 44 3 (.slice (some ⟨w.heap.size, 0, none⟩) (xs.length + 64) (xs.length + 64)) (xs.length + 64) (flatP (widePl xs)) ∧ Below w.heap.size w w'
set_option maxRecDepth 100000 in
set_option maxHeartbeats 2000000 in
theorem widePlayers_any (A : Option Addr) (c : Nat) (xs : List Pl) (w : World) (hx : G.RdS w A 3 xs.length (flatP xs)) (hn : xs.length ≤ 33554432) :
    Calls Tryz.prog 32 #[.slice A xs.length c] w (WidePlPost xs w) := by
  obtain ⟨i0, hi, hz0, hz1, hz2⟩ := info_parts infoPl
  have HX := Lib.hid hx
  obtain ⟨n, hn'⟩ : ∃ n, n = xs.length := ⟨_, rfl⟩
  rw [← hn'] at hn ⊢
  have HN := Lib.hid hn'
  clear hx hn'
  go_enter Tryz.func32, Tryz.ntmps32
  go_wp2_with (refine wpList_make_full _ rfl _ _ 22 rfl w.heap.size 44 i0 _ 3 Tryz.underlying22 hi hz0 hz1 .i64 .i64 _ _ (n + 64) rfl rfl (by simp) (by simp) (by rw [hz2]; omega) (by unfold maxLen; omega) (Nat.le_refl _) ?_; intro w1 ho1 hg1)
  have hb1 : Below w.heap.size w w1 := (Below.refl _ _).grown hg1 (Nat.le_refl _) (by simp)
  obtain ⟨Z, hZ⟩ : ∃ Z, Z = (madeCells (Value.agg #[Value.int .i32 0, Value.int .i32 0, Value.bool false]).cells ((n + 64) * 3)).toList := ⟨_, rfl⟩
  rw [← hZ] at ho1
  have hZl : Z.length = (n + 64) * 3 := by have := ho1.1; exact this
  have HO1 := Lib.hid ho1
  clear ho1 hg1 hZ
  go_wp2
  go_loopw [4] (fun i wr => ∃ k : Nat, k ≤ n + 64 ∧ i = .int .i64 k ∧ Below w.heap.size w wr ∧ wr.ownsRow w.heap.size 44 3 (.slice (some ⟨w.heap.size, 0, none⟩) (n + 64) (n + 64)) (n + 64) (mid (flatP (widePl xs)) Z (k * 3))) (fun i _ => n + 64 - (intOf i).toNat)
  case atStart => exact ⟨0, Nat.zero_le _, rfl, hb1, by rw [Nat.zero_mul, mid_zero]; exact HO1.out⟩
  case round =>
    obtain ⟨k, hk, rfl, hbel, hown⟩ := hrel
    have hF : (flatP (widePl xs)).length = (n + 64) * 3 := by rw [flatP_length, widePl_length, HN.out]
    by_cases hlt : k < n + 64
    · obtain ⟨u, hu⟩ : ∃ u, u = (widePl xs).getD k zeroPl := ⟨_, rfl⟩
      have hst := G.own_setCells u.cells (p := k * 3) hown (by rw [mid_length hF hZl]; simp [Pl.cells]; omega)
      rw [mid_splice hF hZl hlt rfl (by rw [hu]; exact flat_slice_of Pl.cells 3 (fun _ => rfl) zeroPl _ (by rw [widePl_length, ← HN.out]; exact hlt))] at hst
      have HST := Lib.hid hst
      have HB := Lib.hid (below_sets (p := k * 3) hbel (Nat.le_refl _) u.cells)
      have h0 : (k : Int) < n + 64 := by omega
      have h1 : (0 : Int) ≤ k := by omega
      refine cells3_use hown hlt ?_
      intro y0 y1 y2 c0 c1 c2 f0 f1 f2
      by_cases hkn : k < n
      · have hu2 : u = xs.getD k zeroPl := by rw [hu]; exact widePl_lo xs (by rw [← HN.out]; exact hkn)
        obtain ⟨b, off, hA, hr⟩ := (HX.out.below hbel).2 (by rw [← HN.out]; omega)
        obtain ⟨d0, d1, d2⟩ := pl_at hr (k := k) (by rw [← HN.out]; exact hkn) hu2.symm
        subst hA
        clear hr hst hu hu2 hown hF
        obtain ⟨u0, u1, u2⟩ := u
        simp only at d0 d1 d2
        go_wp2
        go_roundw
        case rel => exact ⟨k + 1, by omega, by go_num, HB.out, HST.out.1⟩
        case measure => simp [intOf] <;> omega
      · have hu2 : u = markPl k := by rw [hu]; exact widePl_hi xs (by rw [← HN.out]; omega) (by rw [← HN.out]; exact hlt)
        subst hu2
        clear hst hu hown hF
        go_wp2_with (go_at_call 80; refine (num_any 9 k _ (by omega) (by omega)).mono ?_; rintro e wq ⟨rfl, rfl⟩)
        go_roundw
        case rel => exact ⟨k + 1, by omega, by go_num, HB.out, HST.out.1⟩
        case measure => simp [intOf] <;> omega
    · have hkn : k = n + 64 := by omega
      have hown' : wr.ownsRow w.heap.size 44 3 (.slice (some ⟨w.heap.size, 0, none⟩) (n + 64) (n + 64)) (n + 64) (flatP (widePl xs)) := by
        rw [hkn, mid_full hF hZl] at hown; exact hown
      have HO := Lib.hid hown'
      have h1 : ¬ (k : Int) < n + 64 := by omega
      clear hown hown' hF
      go_wp2
      go_ret
      exact ⟨by rw [← HN.out]; rfl, by rw [← HN.out]; exact HO.out, hbel⟩
set_option maxRecDepth 100000 in
set_option maxHeartbeats 2000000 in
theorem sparePlayers_any (g : Nat) (xs : List Pl) (w : World) (hr : G.RdV w g 0 (flatP (widePl xs))) (hn : xs.length ≤ 33554432) :
    Calls Tryz.prog 39 #[.slice (some ⟨g, 0, none⟩) xs.length (xs.length + 64)] w fun e w' => e = .returned (.bool true) ∧ Below w.heap.size w w' := by
  have HR := Lib.hid hr
  obtain ⟨n, hn'⟩ : ∃ n, n = xs.length := ⟨_, rfl⟩
  rw [← hn'] at hn ⊢
  have HN := Lib.hid hn'
  clear hr hn'
  go_enter Tryz.func39, Tryz.ntmps39
  go_wp2
  go_loopw [4] (fun i wr => ∃ k : Nat, n ≤ k ∧ k ≤ n + 64 ∧ i = .int .i64 k ∧ Below w.heap.size w wr) (fun i _ => n + 64 - (intOf i).toNat)
  case atStart => exact ⟨n, Nat.le_refl _, by omega, rfl, Below.refl _ _⟩
  case round =>
    obtain ⟨k, hk0, hk, rfl, hbel⟩ := hrel
    by_cases hlt : k < n + 64
    · have h0 : (k : Int) < n + 64 := by omega
      have h1 : (0 : Int) ≤ k := by omega
      have hg := HR.out.1
      obtain ⟨d0, d1, d2⟩ := pl_at (HR.out.below hbel) (k := k) (by rw [widePl_length, ← HN.out]; exact hlt) (widePl_hi xs (by rw [← HN.out]; exact hk0) (by rw [← HN.out]; exact hlt))
      rw [Nat.zero_add] at d0 d1 d2
      simp only [markPl] at d0 d1 d2
      have hgr : g < wr.heap.size := World.block_lt_of_cell? _ _ d0
      go_wp2
      go_quiet ((go_at_call 80; exact Calls.quiet_of_same (num_still 9 k _ (by omega) (by omega))))
      go_wp2
      go_roundw
      case rel => exact ⟨k + 1, by omega, by omega, by go_num, by repeat (first | (with_reducible apply G.bl_drewN) | (with_reducible apply G.bl_alloc) | (with_reducible exact hbel))⟩
      case measure => simp [intOf] <;> omega
    · have h1 : ¬ (k : Int) < n + 64 := by omega
      go_wp2
      go_ret
      exact ⟨rfl, hbel⟩
end Go.Proofs.YtmhklnjmeoeanaaGreatDoor.D
namespace Go.Proofs.YtmhklnjmeoeanaaGreatDoor.D
open Go Go.RowKit
set_option linter.unusedVariables false
set_option linter.unusedSimpArgs false
theorem cells6_use {Q : Prop} {w : World} {base : Nat} {e : TypeId} {g n cap j : Nat} {xs : List Value} (h : w.ownsRow base e 6 (.slice (some ⟨g, 0, none⟩) n cap) n xs) (hj : j < n)
    (hQ : ∀ y0 y1 y2 y3 y4 y5, w.cell? ⟨g, j * 6, none⟩ = some y0 → w.cell? ⟨g, j * 6 + 1, none⟩ = some y1 → w.cell? ⟨g, j * 6 + 2, none⟩ = some y2 → w.cell? ⟨g, j * 6 + 3, none⟩ = some y3 → w.cell? ⟨g, j * 6 + 4, none⟩ = some y4 → w.cell? ⟨g, j * 6 + 5, none⟩ = some y5 → w.frozen? ⟨g, j * 6, none⟩ = false → w.frozen? ⟨g, j * 6 + 1, none⟩ = false → w.frozen? ⟨g, j * 6 + 2, none⟩ = false → w.frozen? ⟨g, j * 6 + 3, none⟩ = false → w.frozen? ⟨g, j * 6 + 4, none⟩ = false → w.frozen? ⟨g, j * 6 + 5, none⟩ = false → Q) : Q := by
  have hc : ∀ c, c < 6 → w.cell? ⟨g, j * 6 + c, none⟩ = some (xs.getD (j * 6 + c) undef) := fun c hc => by
    rw [h.cellAt _ (by omega), List.getD_eq_getElem?_getD, List.getElem?_eq_getElem (by rw [h.1]; omega)]
    rfl
  exact hQ _ _ _ _ _ _ (hc 0 (by omega)) (hc 1 (by omega)) (hc 2 (by omega)) (hc 3 (by omega)) (hc 4 (by omega)) (hc 5 (by omega)) (h.frozenAt _) (h.frozenAt _) (h.frozenAt _) (h.frozenAt _) (h.frozenAt _) (h.frozenAt _)
set_option maxRecDepth 100000 in
set_option maxHeartbeats 2000000 in
theorem eqCards_any (A B : Option Addr) (n m c d : Nat) (xs ys : List Cd) (w : World) (hx : G.RdS w A 6 n (flatC xs)) (hy : G.RdS w B 6 m (flatC ys)) (hn : n ≤ maxLen) (hm : m ≤ maxLen) :
    Calls Tryz.prog 10 #[.slice A n c, .slice B m d] w fun e w' => e = .returned (.bool (decide (xs = ys))) ∧ ∃ k, w' = w.drewN k := by
  have hxl : xs.length = n := by have := hx.1; rw [flatC_length] at this; omega
  have hyl : ys.length = m := by have := hy.1; rw [flatC_length] at this; omega
  unfold maxLen at hn hm
  by_cases hnm : n = m
  · subst hnm
    have HX := Lib.hid hx
    have HY := Lib.hid hy
    have HXL := Lib.hid hxl
    have HYL := Lib.hid hyl
    clear hx hy hxl hyl hm
    go_enter Tryz.func10, Tryz.ntmps10
    go_wp2
    go_loopw [5] (fun i wr => ∃ k : Nat, k ≤ n ∧ i = .int .i64 k ∧ xs.take k = ys.take k ∧ ∃ q, wr = w.drewN q) (fun i _ => n - (intOf i).toNat)
    case atStart => exact ⟨0, Nat.zero_le _, rfl, rfl, 0, rfl⟩
    case round =>
      obtain ⟨k, hk, rfl, htk, q, rfl⟩ := hrel
      have HTK := Lib.hid htk
      clear htk
      by_cases hlt : k < n
      · obtain ⟨b, off, rfl, hb⟩ := HX.out.2 (by omega)
        obtain ⟨b2, off2, rfl, hb2⟩ := HY.out.2 (by omega)
        have h0 : (k : Int) < n := by omega
        have h1 : (0 : Int) ≤ k := by omega
        by_cases he : xs.getD k zeroCd = ys.getD k zeroCd
        · have hsu := Lib.hid (take_eq_of zeroCd HTK.out (by rw [HXL.out]; exact hlt) (by rw [HYL.out]; exact hlt) he)
          obtain ⟨c0, c1, c2, c3, c4, c5⟩ := cd_at hb (k := k) (by rw [HXL.out]; exact hlt) he
          obtain ⟨d0, d1, d2, d3, d4, d5⟩ := cd_at hb2 (k := k) (by rw [HYL.out]; exact hlt) rfl
          clear he hb hb2
          generalize ys.getD k zeroCd = z at *
          obtain ⟨z0, z1, z2, z3, z4, z5⟩ := z
          simp only at c0 c1 c2 c3 c4 c5 d0 d1 d2 d3 d4 d5
          go_wp2
          go_quiet (fail)
          go_wp2
          go_roundw
          case rel => exact ⟨k + 1, by omega, by go_num, hsu.out, _, rfl⟩
          case measure => simp [intOf]; omega
        · have hne : decide (xs = ys) = false := by
            simp only [decide_eq_false_iff_not]
            rintro rfl
            exact he rfl
          have HNE := Lib.hid hne
          obtain ⟨c0, c1, c2, c3, c4, c5⟩ := cd_at hb (k := k) (by rw [HXL.out]; exact hlt) rfl
          obtain ⟨d0, d1, d2, d3, d4, d5⟩ := cd_at hb2 (k := k) (by rw [HYL.out]; exact hlt) rfl
          clear hne hb hb2
          generalize ys.getD k zeroCd = z at *
          generalize xs.getD k zeroCd = y at *
          obtain ⟨z0, z1, z2, z3, z4, z5⟩ := z
          obtain ⟨v0, v1, v2, v3, v4, v5⟩ := y
          simp only [Cd.mk.injEq, not_and] at c0 c1 c2 c3 c4 c5 d0 d1 d2 d3 d4 d5 he
          have hq : (v0 == z0) = false ∨ (v0 = z0 ∧ (v1 == z1) = false) ∨ (v0 = z0 ∧ v1 = z1 ∧ (v2 == z2) = false) ∨ (v0 = z0 ∧ v1 = z1 ∧ v2 = z2 ∧ (v3 == z3) = false) ∨ (v0 = z0 ∧ v1 = z1 ∧ v2 = z2 ∧ v3 = z3 ∧ (v4 == z4) = false) ∨ (v0 = z0 ∧ v1 = z1 ∧ v2 = z2 ∧ v3 = z3 ∧ v4 = z4 ∧ (v5 == z5) = false) := by
            by_cases e0 : v0 = z0
            · by_cases e1 : v1 = z1
              · by_cases e2 : v2 = z2
                · by_cases e3 : v3 = z3
                  · by_cases e4 : v4 = z4
                    · exact (.inr (.inr (.inr (.inr (.inr ⟨e0, e1, e2, e3, e4, (by simpa using (he e0 e1 e2 e3 e4))⟩)))))
                    · exact (.inr (.inr (.inr (.inr (.inl ⟨e0, e1, e2, e3, (by simpa using e4)⟩)))))
                  · exact (.inr (.inr (.inr (.inl ⟨e0, e1, e2, (by simpa using e3)⟩))))
                · exact (.inr (.inr (.inl ⟨e0, e1, (by simpa using e2)⟩)))
              · exact (.inr (.inl ⟨e0, (by simpa using e1)⟩))
            · exact (.inl (by simpa using e0))
          clear he
          rcases hq with q0 | ⟨rfl, q1⟩ | ⟨rfl, rfl, q2⟩ | ⟨rfl, rfl, rfl, q3⟩ | ⟨rfl, rfl, rfl, rfl, q4⟩ | ⟨rfl, rfl, rfl, rfl, rfl, q5⟩
          all_goals
            go_wp2
            go_quiet (fail)
            go_wp2
            go_ret
            exact ⟨(ret_bool HNE.out).symm, (by first | exact ⟨_, rfl⟩ | exact ⟨_, World.drewN_drewN ..⟩)⟩
      · have hd : decide (xs = ys) = true := by
          simp only [decide_eq_true_eq]
          have h2 := HTK.out
          rwa [List.take_of_length_le (by rw [HXL.out]; omega), List.take_of_length_le (by rw [HYL.out]; omega)] at h2
        have HD := Lib.hid hd
        clear hd
        go_wp2
        go_ret
        exact ⟨(ret_bool HD.out).symm, _, rfl⟩
  · have hd : decide (xs = ys) = false := by
      simp only [decide_eq_false_iff_not]
      rintro rfl
      omega
    have HD := Lib.hid hd
    clear hd hx hy hxl hyl
    have hnm1 : ((n : Int) == m) = false := by simpa using fun h : (n : Int) = m => hnm (by omega)
    have hnm2 : ((n : Int) != m) = true := by simpa using fun h : (n : Int) = m => hnm (by omega)
    go_enter Tryz.func10, Tryz.ntmps10
    go_wp2
    go_ret
    exact ⟨(ret_bool HD.out).symm, 0, rfl⟩
theorem infoCd : (Tryz.prog.info? 39).map (fun i => (i.zero, i.size, i.bytes)) = some (some (Value.agg #[Value.int .i64 0, Value.int .i64 0, Value.int .i32 0, Value.int .i32 0, Value.int .i32 0, Value.int .i32 0]), 6, 32) := by kernel_rfl
def markCd (i : Nat) : Cd := ⟨1048576 * 9 + (i : Int) + 1, 0, 0, 0, 0, 0⟩
def marksCd (n : Nat) : List Cd := (List.range 64).map fun j => markCd (n + j)
def wideCd (xs : List Cd) : List Cd := xs ++ marksCd xs.length
theorem wideCd_length (xs : List Cd) : (wideCd xs).length = xs.length + 64 := by simp [wideCd, marksCd]
theorem wideCd_lo (xs : List Cd) {k : Nat} (h : k < xs.length) : (wideCd xs).getD k zeroCd = xs.getD k zeroCd := by
  unfold wideCd
  rw [List.getD_eq_getElem?_getD, List.getD_eq_getElem?_getD, List.getElem?_append_left h]
theorem wideCd_hi (xs : List Cd) {k : Nat} (h : xs.length ≤ k) (h2 : k < xs.length + 64) : (wideCd xs).getD k zeroCd = markCd k := by
  unfold wideCd marksCd
  rw [List.getD_eq_getElem?_getD, List.getElem?_append_right h]
  have h3 : k - xs.length < 64 := by omega
  have h4 : xs.length + (k - xs.length) = k := by omega
  simp [h3, h4]
def WideCdPost (xs : List Cd) (w : World) (e : Ending) (w' : World) : Prop :=
  e = .returned (.slice (some ⟨w.heap.size, 0, none⟩) xs.length (xs.length + 64)) ∧
    w'.ownsRow w.heap.size 39 6 (.slice (some ⟨w.heap.size, 0, none⟩) (xs.length + 64) (xs.length + 64)) (xs.length + 64) (flatC (wideCd xs)) ∧ Below w.heap.size w w'
set_option maxRecDepth 100000 in
set_option maxHeartbeats 2000000 in
theorem wideCards_any (A : Option Addr) (c : Nat) (xs : List Cd) (w : World) (hx : G.RdS w A 6 xs.length (flatC xs)) (hn : xs.length ≤ 1099511627776) :
    Calls Tryz.prog 33 #[.slice A xs.length c] w (WideCdPost xs w) := by
  obtain ⟨i0, hi, hz0, hz1, hz2⟩ := info_parts infoCd
  have HX := Lib.hid hx
  obtain ⟨n, hn'⟩ : ∃ n, n = xs.length := ⟨_, rfl⟩
  rw [← hn'] at hn ⊢
  have HN := Lib.hid hn'
  clear hx hn'
  go_enter Tryz.func33, Tryz.ntmps33
  go_wp2_with (refine wpList_make_full _ rfl _ _ 23 rfl w.heap.size 39 i0 _ 6 Tryz.underlying23 hi hz0 hz1 .i64 .i64 _ _ (n + 64) rfl rfl (by simp) (by simp) (by rw [hz2]; omega) (by unfold maxLen; omega) (Nat.le_refl _) ?_; intro w1 ho1 hg1)
  have hb1 : Below w.heap.size w w1 := (Below.refl _ _).grown hg1 (Nat.le_refl _) (by simp)
  obtain ⟨Z, hZ⟩ : ∃ Z, Z = (madeCells (Value.agg #[Value.int .i64 0, Value.int .i64 0, Value.int .i32 0, Value.int .i32 0, Value.int .i32 0, Value.int .i32 0]).cells ((n + 64) * 6)).toList := ⟨_, rfl⟩
  rw [← hZ] at ho1
  have hZl : Z.length = (n + 64) * 6 := by have := ho1.1; exact this
  have HO1 := Lib.hid ho1
  clear ho1 hg1 hZ
  go_wp2
  go_loopw [4] (fun i wr => ∃ k : Nat, k ≤ n + 64 ∧ i = .int .i64 k ∧ Below w.heap.size w wr ∧ wr.ownsRow w.heap.size 39 6 (.slice (some ⟨w.heap.size, 0, none⟩) (n + 64) (n + 64)) (n + 64) (mid (flatC (wideCd xs)) Z (k * 6))) (fun i _ => n + 64 - (intOf i).toNat)
  case atStart => exact ⟨0, Nat.zero_le _, rfl, hb1, by rw [Nat.zero_mul, mid_zero]; exact HO1.out⟩
  case round =>
    obtain ⟨k, hk, rfl, hbel, hown⟩ := hrel
    have hF : (flatC (wideCd xs)).length = (n + 64) * 6 := by rw [flatC_length, wideCd_length, HN.out]
    by_cases hlt : k < n + 64
    · obtain ⟨u, hu⟩ : ∃ u, u = (wideCd xs).getD k zeroCd := ⟨_, rfl⟩
      have hst := G.own_setCells u.cells (p := k * 6) hown (by rw [mid_length hF hZl]; simp [Cd.cells]; omega)
      rw [mid_splice hF hZl hlt rfl (by rw [hu]; exact flat_slice_of Cd.cells 6 (fun _ => rfl) zeroCd _ (by rw [wideCd_length, ← HN.out]; exact hlt))] at hst
      have HST := Lib.hid hst
      have HB := Lib.hid (below_sets (p := k * 6) hbel (Nat.le_refl _) u.cells)
      have h0 : (k : Int) < n + 64 := by omega
      have h1 : (0 : Int) ≤ k := by omega
      refine cells6_use hown hlt ?_
      intro y0 y1 y2 y3 y4 y5 c0 c1 c2 c3 c4 c5 f0 f1 f2 f3 f4 f5
      by_cases hkn : k < n
      · have hu2 : u = xs.getD k zeroCd := by rw [hu]; exact wideCd_lo xs (by rw [← HN.out]; exact hkn)
        obtain ⟨b, off, hA, hr⟩ := (HX.out.below hbel).2 (by rw [← HN.out]; omega)
        obtain ⟨d0, d1, d2, d3, d4, d5⟩ := cd_at hr (k := k) (by rw [← HN.out]; exact hkn) hu2.symm
        subst hA
        clear hr hst hu hu2 hown hF
        obtain ⟨u0, u1, u2, u3, u4, u5⟩ := u
        simp only at d0 d1 d2 d3 d4 d5
        go_wp2
        go_roundw
        case rel => exact ⟨k + 1, by omega, by go_num, HB.out, HST.out.1⟩
        case measure => simp [intOf] <;> omega
      · have hu2 : u = markCd k := by rw [hu]; exact wideCd_hi xs (by rw [← HN.out]; omega) (by rw [← HN.out]; exact hlt)
        subst hu2
        clear hst hu hown hF
        go_wp2_with (go_at_call 80; refine (num_any 9 k _ (by omega) (by omega)).mono ?_; rintro e wq ⟨rfl, rfl⟩)
        go_roundw
        case rel => exact ⟨k + 1, by omega, by go_num, HB.out, HST.out.1⟩
        case measure => simp [intOf] <;> omega
    · have hkn : k = n + 64 := by omega
      have hown' : wr.ownsRow w.heap.size 39 6 (.slice (some ⟨w.heap.size, 0, none⟩) (n + 64) (n + 64)) (n + 64) (flatC (wideCd xs)) := by
        rw [hkn, mid_full hF hZl] at hown; exact hown
      have HO := Lib.hid hown'
      have h1 : ¬ (k : Int) < n + 64 := by omega
      clear hown hown' hF
      go_wp2
      go_ret
      exact ⟨by rw [← HN.out]; rfl, by rw [← HN.out]; exact HO.out, hbel⟩
set_option maxRecDepth 100000 in
set_option maxHeartbeats 2000000 in
theorem spareCards_any (g : Nat) (xs : List Cd) (w : World) (hr : G.RdV w g 0 (flatC (wideCd xs))) (hn : xs.length ≤ 1099511627776) :
    Calls Tryz.prog 40 #[.slice (some ⟨g, 0, none⟩) xs.length (xs.length + 64)] w fun e w' => e = .returned (.bool true) ∧ Below w.heap.size w w' := by
  have HR := Lib.hid hr
  obtain ⟨n, hn'⟩ : ∃ n, n = xs.length := ⟨_, rfl⟩
  rw [← hn'] at hn ⊢
  have HN := Lib.hid hn'
  clear hr hn'
  go_enter Tryz.func40, Tryz.ntmps40
  go_wp2
  go_loopw [4] (fun i wr => ∃ k : Nat, n ≤ k ∧ k ≤ n + 64 ∧ i = .int .i64 k ∧ Below w.heap.size w wr) (fun i _ => n + 64 - (intOf i).toNat)
  case atStart => exact ⟨n, Nat.le_refl _, by omega, rfl, Below.refl _ _⟩
  case round =>
    obtain ⟨k, hk0, hk, rfl, hbel⟩ := hrel
    by_cases hlt : k < n + 64
    · have h0 : (k : Int) < n + 64 := by omega
      have h1 : (0 : Int) ≤ k := by omega
      have hg := HR.out.1
      obtain ⟨d0, d1, d2, d3, d4, d5⟩ := cd_at (HR.out.below hbel) (k := k) (by rw [wideCd_length, ← HN.out]; exact hlt) (wideCd_hi xs (by rw [← HN.out]; exact hk0) (by rw [← HN.out]; exact hlt))
      rw [Nat.zero_add] at d0 d1 d2 d3 d4 d5
      simp only [markCd] at d0 d1 d2 d3 d4 d5
      have hgr : g < wr.heap.size := World.block_lt_of_cell? _ _ d0
      go_wp2
      go_quiet ((go_at_call 80; exact Calls.quiet_of_same (num_still 9 k _ (by omega) (by omega))))
      go_wp2
      go_roundw
      case rel => exact ⟨k + 1, by omega, by omega, by go_num, by repeat (first | (with_reducible apply G.bl_drewN) | (with_reducible apply G.bl_alloc) | (with_reducible exact hbel))⟩
      case measure => simp [intOf] <;> omega
    · have h1 : ¬ (k : Int) < n + 64 := by omega
      go_wp2
      go_ret
      exact ⟨rfl, hbel⟩
end Go.Proofs.YtmhklnjmeoeanaaGreatDoor.D

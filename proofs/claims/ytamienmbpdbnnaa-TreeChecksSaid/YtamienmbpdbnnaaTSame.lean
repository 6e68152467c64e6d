/- The contracts of both Same, of SizeNodes, Long, beyond, CopyNodes. -/
import Derived.Test.YtamienmbpdbnnaaTNodes
import Derived.Laws.AppendOwnNone
namespace Go.Proofs.Ytamienmbpdbnnaa.T
open Go Go.RowKit
set_option linter.unusedVariables false
set_option linter.unusedSimpArgs false
/-- The same node, but for its place. -/
def SimN (x y : Nd) : Prop := x.op = y.op ∧ x.kind = y.kind ∧ x.n = y.n ∧ x.m = y.m ∧ x.text = y.text ∧ x.kids = y.kids
instance (x y : Nd) : Decidable (SimN x y) := by unfold SimN; infer_instance
/-- P9.4 -/
def SameP (a b : List Nd) : Prop := a.length = b.length ∧ ∀ k, k < a.length → SimN (a.getD k zeroNd) (b.getD k zeroNd)
instance (a b : List Nd) : Decidable (SameP a b) := by unfold SameP; infer_instance
set_option maxRecDepth 100000 in
set_option maxHeartbeats 4000000 in
theorem same_any (A B : Option Addr) (n m c d : Nat) (xs ys : List Nd) (w : World) (hx : G.RdS w A 7 n (flat xs)) (hy : G.RdS w B 7 m (flat ys)) (hn : n ≤ maxLen) (hm : m ≤ maxLen) :
    Calls Try.prog 20 #[.slice A n c, .slice B m d] w fun e w' => e = .returned (.bool (decide (SameP xs ys))) ∧ Below w.heap.size w w' := by
  have hxl : xs.length = n := by have := hx.1; rw [flat_length] at this; omega
  have hyl : ys.length = m := by have := hy.1; rw [flat_length] at this; omega
  unfold maxLen at hn hm
  by_cases hnm : n = m
  · subst hnm
    have HX := Lib.hid hx
    have HY := Lib.hid hy
    have HXL := Lib.hid hxl
    have HYL := Lib.hid hyl
    clear hx hy hxl hyl hm
    go_enter Try.func20, Try.ntmps20
    go_wp2
    go_loopw [14] (fun i wr => ∃ k : Nat, k ≤ n ∧ i = .int .i64 k ∧ (∀ j, j < k → SimN (xs.getD j zeroNd) (ys.getD j zeroNd)) ∧ Below w.heap.size w wr) (fun i _ => n - (intOf i).toNat)
    case atStart => exact ⟨0, Nat.zero_le _, rfl, fun j hj => by omega, Below.refl _ _⟩
    case round =>
      obtain ⟨k, hk, rfl, hall, hbel⟩ := hrel
      have HALL := Lib.hid hall
      have hws := hbel.size
      clear hall
      by_cases hlt : k < n
      · obtain ⟨b, off, rfl, hb⟩ := (HX.out.below hbel).2 (by omega)
        obtain ⟨b2, off2, rfl, hb2⟩ := (HY.out.below hbel).2 (by omega)
        have hbw := hb2.1
        have h0 : (k : Int) < n := by omega
        have h1 : (0 : Int) ≤ k := by omega
        obtain ⟨c0, c1, c2, c3, c4, c5, c6⟩ := nd_at hb (k := k) (by rw [HXL.out]; exact hlt) rfl
        obtain ⟨d0, d1, d2, d3, d4, d5, d6⟩ := nd_at hb2 (k := k) (by rw [HYL.out]; exact hlt) rfl
        by_cases he : SimN (xs.getD k zeroNd) (ys.getD k zeroNd)
        · have HS := Lib.hid (show ∀ j, j < k + 1 → SimN (xs.getD j zeroNd) (ys.getD j zeroNd) from fun j hj => by
            by_cases e : j = k
            · subst e; exact he
            · exact HALL.out j (by omega))
          clear hb hb2
          unfold SimN at he
          generalize ys.getD k zeroNd = z at *
          generalize xs.getD k zeroNd = y at *
          obtain ⟨z0, z1, z2, z3, z4, z5, z6⟩ := z
          obtain ⟨v0, v1, v2, v3, v4, v5, v6⟩ := y
          simp only at c0 c1 c2 c3 c4 c5 c6 d0 d1 d2 d3 d4 d5 d6 he
          obtain ⟨rfl, rfl, rfl, rfl, rfl, rfl⟩ := he
          go_wp2
          go_quiet (fail)
          go_wp2
          go_roundw
          case rel => exact ⟨k + 1, by omega, by go_num, HS.out, (by repeat (first | (with_reducible apply G.bl_drewN) | (with_reducible refine G.bl_set ?_ (by simp; omega) _) | (with_reducible apply G.bl_alloc) | (with_reducible exact hbel)))⟩
          case measure => simp [intOf]; omega
        · have HNE := Lib.hid (show decide (SameP xs ys) = false from decide_eq_false (fun h => he (h.2 k (by rw [HXL.out]; exact hlt))))
          clear hb hb2
          unfold SimN at he
          generalize ys.getD k zeroNd = z at *
          generalize xs.getD k zeroNd = y at *
          obtain ⟨z0, z1, z2, z3, z4, z5, z6⟩ := z
          obtain ⟨v0, v1, v2, v3, v4, v5, v6⟩ := y
          simp only at c0 c1 c2 c3 c4 c5 c6 d0 d1 d2 d3 d4 d5 d6 he
          have hq : (v0 == z0) = false ∨ (v0 = z0 ∧ (v1 == z1) = false) ∨ (v0 = z0 ∧ v1 = z1 ∧ (v2 == z2) = false) ∨ (v0 = z0 ∧ v1 = z1 ∧ v2 = z2 ∧ (v3 == z3) = false) ∨ (v0 = z0 ∧ v1 = z1 ∧ v2 = z2 ∧ v3 = z3 ∧ (v4.toList == z4.toList) = false) ∨ (v0 = z0 ∧ v1 = z1 ∧ v2 = z2 ∧ v3 = z3 ∧ v4 = z4 ∧ (v6 == z6) = false) := by
            by_cases e0 : v0 = z0
            · by_cases e1 : v1 = z1
              · by_cases e2 : v2 = z2
                · by_cases e3 : v3 = z3
                  · by_cases e4 : v4 = z4
                    · exact (.inr (.inr (.inr (.inr (.inr ⟨e0, e1, e2, e3, e4, (by simpa using (fun e5 => he ⟨e0, e1, e2, e3, e4, e5⟩))⟩)))))
                    · exact (.inr (.inr (.inr (.inr (.inl ⟨e0, e1, e2, e3, (str_ne e4)⟩)))))
                  · exact (.inr (.inr (.inr (.inl ⟨e0, e1, e2, (by simpa using e3)⟩))))
                · exact (.inr (.inr (.inl ⟨e0, e1, (by simpa using e2)⟩)))
              · exact (.inr (.inl ⟨e0, (by simpa using e1)⟩))
            · exact (.inl (by simpa using e0))
          clear he
          rcases hq with q0 | ⟨rfl, q1⟩ | ⟨rfl, rfl, q2⟩ | ⟨rfl, rfl, rfl, q3⟩ | ⟨rfl, rfl, rfl, rfl, q4⟩ | ⟨rfl, rfl, rfl, rfl, rfl, q5⟩
          all_goals
            go_wp2
            go_quiet (fail)
            go_wp2
            go_ret
            exact ⟨(ret_bool HNE.out).symm, (by repeat (first | (with_reducible apply G.bl_drewN) | (with_reducible refine G.bl_set ?_ (by simp; omega) _) | (with_reducible apply G.bl_alloc) | (with_reducible exact hbel)))⟩
      · have HD := Lib.hid (show decide (SameP xs ys) = true from decide_eq_true ⟨by rw [HXL.out, HYL.out], fun j hj => HALL.out j (by rw [HXL.out] at hj; omega)⟩)
        go_wp2
        go_ret
        exact ⟨(ret_bool HD.out).symm, hbel⟩
  · have HD := Lib.hid (show decide (SameP xs ys) = false from decide_eq_false (fun h => hnm (by have := h.1; omega)))
    have hnm1 : ((n : Int) == m) = false := by simpa using fun h : (n : Int) = m => hnm (by omega)
    have hnm2 : ((n : Int) != m) = true := by simpa using fun h : (n : Int) = m => hnm (by omega)
    clear hx hy hxl hyl
    go_enter Try.func20, Try.ntmps20
    go_wp2
    go_ret
    exact ⟨(ret_bool HD.out).symm, Below.refl _ _⟩
set_option maxRecDepth 100000 in
set_option maxHeartbeats 4000000 in
theorem refSame_any (A B : Option Addr) (n m c d : Nat) (xs ys : List Nd) (w : World) (hx : G.RdS w A 7 n (flat xs)) (hy : G.RdS w B 7 m (flat ys)) (hn : n ≤ maxLen) (hm : m ≤ maxLen) :
    Calls Try.prog 21 #[.slice A n c, .slice B m d] w fun e w' => e = .returned (.bool (decide (SameP xs ys))) ∧ Below w.heap.size w w' := by
  have hxl : xs.length = n := by have := hx.1; rw [flat_length] at this; omega
  have hyl : ys.length = m := by have := hy.1; rw [flat_length] at this; omega
  unfold maxLen at hn hm
  by_cases hnm : n = m
  · subst hnm
    have HX := Lib.hid hx
    have HY := Lib.hid hy
    have HXL := Lib.hid hxl
    have HYL := Lib.hid hyl
    clear hx hy hxl hyl hm
    go_enter Try.func21, Try.ntmps21
    go_wp2
    go_loopw [5] (fun i wr => ∃ k : Nat, k ≤ n ∧ i = .int .i64 k ∧ (∀ j, j < k → SimN (xs.getD j zeroNd) (ys.getD j zeroNd)) ∧ Below w.heap.size w wr) (fun i _ => n - (intOf i).toNat)
    case atStart => exact ⟨0, Nat.zero_le _, rfl, fun j hj => by omega, Below.refl _ _⟩
    case round =>
      obtain ⟨k, hk, rfl, hall, hbel⟩ := hrel
      have HALL := Lib.hid hall
      have hws := hbel.size
      clear hall
      by_cases hlt : k < n
      · obtain ⟨b, off, rfl, hb⟩ := (HX.out.below hbel).2 (by omega)
        obtain ⟨b2, off2, rfl, hb2⟩ := (HY.out.below hbel).2 (by omega)
        have hbw := hb2.1
        have h0 : (k : Int) < n := by omega
        have h1 : (0 : Int) ≤ k := by omega
        obtain ⟨c0, c1, c2, c3, c4, c5, c6⟩ := nd_at hb (k := k) (by rw [HXL.out]; exact hlt) rfl
        obtain ⟨d0, d1, d2, d3, d4, d5, d6⟩ := nd_at hb2 (k := k) (by rw [HYL.out]; exact hlt) rfl
        by_cases he : SimN (xs.getD k zeroNd) (ys.getD k zeroNd)
        · have HS := Lib.hid (show ∀ j, j < k + 1 → SimN (xs.getD j zeroNd) (ys.getD j zeroNd) from fun j hj => by
            by_cases e : j = k
            · subst e; exact he
            · exact HALL.out j (by omega))
          clear hb hb2
          unfold SimN at he
          generalize ys.getD k zeroNd = z at *
          generalize xs.getD k zeroNd = y at *
          obtain ⟨z0, z1, z2, z3, z4, z5, z6⟩ := z
          obtain ⟨v0, v1, v2, v3, v4, v5, v6⟩ := y
          simp only at c0 c1 c2 c3 c4 c5 c6 d0 d1 d2 d3 d4 d5 d6 he
          obtain ⟨rfl, rfl, rfl, rfl, rfl, rfl⟩ := he
          go_wp2
          go_quiet (fail)
          go_wp2
          go_roundw
          case rel => exact ⟨k + 1, by omega, by go_num, HS.out, (by repeat (first | (with_reducible apply G.bl_drewN) | (with_reducible refine G.bl_set ?_ (by simp; omega) _) | (with_reducible apply G.bl_alloc) | (with_reducible exact hbel)))⟩
          case measure => simp [intOf]; omega
        · have HNE := Lib.hid (show decide (SameP xs ys) = false from decide_eq_false (fun h => he (h.2 k (by rw [HXL.out]; exact hlt))))
          clear hb hb2
          unfold SimN at he
          generalize ys.getD k zeroNd = z at *
          generalize xs.getD k zeroNd = y at *
          obtain ⟨z0, z1, z2, z3, z4, z5, z6⟩ := z
          obtain ⟨v0, v1, v2, v3, v4, v5, v6⟩ := y
          simp only at c0 c1 c2 c3 c4 c5 c6 d0 d1 d2 d3 d4 d5 d6 he
          have hq : (v0 == z0) = false ∨ (v0 = z0 ∧ (v1 == z1) = false) ∨ (v0 = z0 ∧ v1 = z1 ∧ (v2 == z2) = false) ∨ (v0 = z0 ∧ v1 = z1 ∧ v2 = z2 ∧ (v3 == z3) = false) ∨ (v0 = z0 ∧ v1 = z1 ∧ v2 = z2 ∧ v3 = z3 ∧ (v4.toList == z4.toList) = false) ∨ (v0 = z0 ∧ v1 = z1 ∧ v2 = z2 ∧ v3 = z3 ∧ v4 = z4 ∧ (v6 == z6) = false) := by
            by_cases e0 : v0 = z0
            · by_cases e1 : v1 = z1
              · by_cases e2 : v2 = z2
                · by_cases e3 : v3 = z3
                  · by_cases e4 : v4 = z4
                    · exact (.inr (.inr (.inr (.inr (.inr ⟨e0, e1, e2, e3, e4, (by simpa using (fun e5 => he ⟨e0, e1, e2, e3, e4, e5⟩))⟩)))))
                    · exact (.inr (.inr (.inr (.inr (.inl ⟨e0, e1, e2, e3, (str_ne e4)⟩)))))
                  · exact (.inr (.inr (.inr (.inl ⟨e0, e1, e2, (by simpa using e3)⟩))))
                · exact (.inr (.inr (.inl ⟨e0, e1, (by simpa using e2)⟩)))
              · exact (.inr (.inl ⟨e0, (by simpa using e1)⟩))
            · exact (.inl (by simpa using e0))
          clear he
          rcases hq with q0 | ⟨rfl, q1⟩ | ⟨rfl, rfl, q2⟩ | ⟨rfl, rfl, rfl, q3⟩ | ⟨rfl, rfl, rfl, rfl, q4⟩ | ⟨rfl, rfl, rfl, rfl, rfl, q5⟩
          all_goals
            go_wp2
            go_quiet (fail)
            go_wp2
            go_ret
            exact ⟨(ret_bool HNE.out).symm, (by repeat (first | (with_reducible apply G.bl_drewN) | (with_reducible refine G.bl_set ?_ (by simp; omega) _) | (with_reducible apply G.bl_alloc) | (with_reducible exact hbel)))⟩
      · have HD := Lib.hid (show decide (SameP xs ys) = true from decide_eq_true ⟨by rw [HXL.out, HYL.out], fun j hj => HALL.out j (by rw [HXL.out] at hj; omega)⟩)
        go_wp2
        go_ret
        exact ⟨(ret_bool HD.out).symm, hbel⟩
  · have HD := Lib.hid (show decide (SameP xs ys) = false from decide_eq_false (fun h => hnm (by have := h.1; omega)))
    have hnm1 : ((n : Int) == m) = false := by simpa using fun h : (n : Int) = m => hnm (by omega)
    have hnm2 : ((n : Int) != m) = true := by simpa using fun h : (n : Int) = m => hnm (by omega)
    clear hx hy hxl hyl
    go_enter Try.func21, Try.ntmps21
    go_wp2
    go_ret
    exact ⟨(ret_bool HD.out).symm, Below.refl _ _⟩
def SizePost (t : List Nd) (w : World) (e : Ending) (w' : World) : Prop :=
  ∃ N : Nat, e = .returned (.int .i64 N) ∧ w = w' ∧ N ≤ 140737505132544 ∧ t.length ≤ N ∧ (N ≤ 16777216 → ∀ x ∈ t, x.text.size ≤ 16777216)
set_option maxRecDepth 100000 in
set_option maxHeartbeats 2000000 in
theorem sizeNodes_any (A : Option Addr) (n c : Nat) (t : List Nd) (w : World) (hn : t.length = n) (hm : n ≤ 140737488355328) (hr : G.RdS w A 7 n (flat t)) (ht : ∀ x ∈ t, x.text.size ≤ 140737488355328) :
    Calls Try.prog 26 #[.slice A n c] w (SizePost t w) := by
  have HN := Lib.hid hn
  have HR := Lib.hid hr
  have HT := Lib.hid ht
  clear hn hr ht
  go_enter Try.func26, Try.ntmps26
  go_wp2
  go_loop [3, 4] (fun s i => ∃ k N : Nat, k ≤ n ∧ i = .int .i64 k ∧ s = .int .i64 N ∧ N ≤ 140737505132544 ∧ n ≤ N ∧ (∀ j, j < k → (t.getD j zeroNd).text.size ≤ N)) (fun _ i => n - (intOf i).toNat)
  case atStart => exact ⟨0, n, Nat.zero_le _, rfl, rfl, by omega, Nat.le_refl _, fun j hj => by omega⟩
  case round =>
    obtain ⟨k, N, hk, rfl, rfl, hN, hnN, hall⟩ := hrel
    have HALL := Lib.hid hall
    have h1 : (0 : Int) ≤ k := by omega
    clear hall
    by_cases hlt : k < n
    · have h0 : (k : Int) < n := by omega
      by_cases hb : N ≤ 16777216
      · have hb1 : (N : Int) ≤ 16777216 := by omega
        obtain ⟨b, off, rfl, hr⟩ := HR.out.2 (by omega)
        have hc := (nd_at hr (k := k) (by rw [HN.out]; exact hlt) rfl).2.2.2.2.1
        have hs := HT.out (t.getD k zeroNd) (by rw [List.getD_eq_getElem?_getD, List.getElem?_eq_getElem (by rw [HN.out]; exact hlt)]; exact List.getElem_mem _)
        obtain ⟨S, hS⟩ : ∃ S, S = (t.getD k zeroNd).text := ⟨_, rfl⟩
        rw [← hS] at hc hs
        have HS := Lib.hid hS.symm
        clear hr hS
        go_wp2
        go_round
        case rel => exact ⟨k + 1, N + S.size, by omega, by go_num, by go_num, by omega, by omega, fun j hj => by
          by_cases e : j = k
          · subst e; rw [HS.out]; omega
          · exact Nat.le_trans (HALL.out j (by omega)) (by omega)⟩
        case measure => simp [intOf]; omega
      · have hb1 : ¬ (N : Int) ≤ 16777216 := by omega
        go_wp2
        go_ret
        exact ⟨N, rfl, rfl, hN, by rw [HN.out]; exact hnN, fun h => absurd h hb⟩
    · have h0 : ¬ (k : Int) < n := by omega
      go_wp2
      go_ret
      refine ⟨N, rfl, rfl, hN, by rw [HN.out]; exact hnN, fun h x hx => ?_⟩
      obtain ⟨j, hj, rfl⟩ := List.mem_iff_getElem.1 hx
      have h2 := HALL.out j (by have := HN.out; omega)
      rw [List.getD_eq_getElem?_getD, List.getElem?_eq_getElem hj] at h2
      exact Nat.le_trans h2 h
def BeyondPost (t : List Nd) (w : World) (e : Ending) (w' : World) : Prop :=
  ∃ b : Bool, e = .returned (.bool b) ∧ w = w' ∧ (b = false → t.length ≤ 65536 ∧ ∀ x ∈ t, x.text.size ≤ 16777216)
theorem long_any (n : Nat) (w : World) : Calls Try.prog 25 #[.int .i64 n] w fun e w' => e = .returned (.bool (decide (16777216 < n))) ∧ w = w' := by
  by_cases h : 16777216 < n
  · have h1 : (16777216 : Int) < n := by omega
    have HD := Lib.hid (decide_eq_true h)
    go_enter Try.func25, Try.ntmps25
    go_wp2
    go_ret
    exact ⟨ret_bool HD.out.symm, rfl⟩
  · have h1 : ¬ (16777216 : Int) < n := by omega
    have HD := Lib.hid (decide_eq_false h)
    go_enter Try.func25, Try.ntmps25
    go_wp2
    go_ret
    exact ⟨by first | rfl | exact ret_bool HD.out.symm, rfl⟩
set_option maxHeartbeats 1000000 in
theorem beyond_any (A : Option Addr) (n c : Nat) (t : List Nd) (w : World) (hn : t.length = n) (hm : n ≤ 140737488355328) (hr : G.RdS w A 7 n (flat t)) (ht : ∀ x ∈ t, x.text.size ≤ 140737488355328) :
    Calls Try.prog 8 #[.slice A n c] w (BeyondPost t w) := by
  have HS := Lib.hid (sizeNodes_any A n c t w hn hm hr ht)
  have HN := Lib.hid hn
  clear hn hr ht
  go_enter Try.func8, Try.ntmps8
  go_wp2_with fail
  refine HS.out.mono ?_
  rintro e w1 ⟨N, rfl, rfl, hN, hnN, hall⟩
  have HALL := Lib.hid hall
  clear hall
  go_wp2_with fail
  refine (long_any N w).mono ?_
  rintro e w1 ⟨rfl, rfl⟩
  by_cases hb : 16777216 < N
  · have HD := decide_eq_true hb
    rw [HD]
    clear HD
    go_wp2_with fail
    go_ret
    exact ⟨true, rfl, rfl, fun h => by cases h⟩
  · have HD := decide_eq_false hb
    rw [HD]
    clear HD
    by_cases hl : (65536 : Int) < n
    · go_wp2_with fail
      go_ret
      exact ⟨true, rfl, rfl, fun h => by cases h⟩
    · have HL := Lib.hid hl
      go_wp2_with fail
      go_ret
      exact ⟨false, ret_bool (decide_eq_false (by have := HL.out; omega)), rfl, fun _ => ⟨by have := HL.out; rw [HN.out]; omega, HALL.out (by omega)⟩⟩
theorem nd_one (l : List Nd) : ∀ u ∈ flat l, u.oneCell' = true := by
  intro u hu
  simp only [flat, List.mem_flatMap] at hu
  obtain ⟨x, _, hx⟩ := hu
  simp only [Nd.cells, List.mem_cons, List.mem_nil_iff, or_false] at hx
  rcases hx with rfl | rfl | rfl | rfl | rfl | rfl | rfl <;> rfl
def CopyNPost (t : List Nd) (w : World) (e : Ending) (w' : World) : Prop := ∃ v, e = .returned v ∧ w'.ownsRow w.heap.size 33 7 v t.length (flat t) ∧ Below w.heap.size w w'
set_option maxHeartbeats 1000000 in
theorem copyNodes_any (A : Option Addr) (n c : Nat) (t : List Nd) (w : World) (hn : t.length = n) (hm : n ≤ 1099511627776) (hr : G.RdS w A 7 n (flat t)) :
    Calls Try.prog 19 #[.slice A n c] w (CopyNPost t w) := by
  obtain ⟨i0, hi, hz0, hz1, hz2⟩ := info_parts infoNd
  have HR := Lib.hid hr
  have HN := Lib.hid hn
  by_cases h0 : n = 0
  · subst h0
    have ht : t = [] := List.eq_nil_of_length_eq_zero hn
    subst ht
    clear hn hr
    cases A with
    | none =>
      go_enter Try.func19, Try.ntmps19
      go_wp2_with (at_builtin; refine wpList_append_own_none rfl _ _ 22 rfl w.heap.size 33 i0 7 Try.underlying22 hi (.slice none 0 0) 0 [] rfl (World.ownsRow_nil _ _ _ _) rfl ?_)
      go_ret
      exact ⟨_, rfl, World.ownsRow_nil _ _ _ _, Below.refl _ _⟩
    | some ad =>
      go_enter Try.func19, Try.ntmps19
      go_wp2_with (at_builtin; refine wpList_append_own _ rfl _ _ 22 rfl w.heap.size 33 i0 _ 7 56 Try.underlying22 hi hz0 hz1 hz2 rfl (by decide) (.slice none 0 0) 0 [] rfl (World.ownsRow_nil _ _ _ _) ad 0 c [] rfl rfl (fun j u hu => by cases hu) (fun u hu => by cases hu) (by unfold maxLen; omega) (by omega) (Nat.le_refl _) ?_; intro v' w1 hown1 hg1 _)
      go_ret
      refine ⟨_, rfl, by simpa [flat] using hown1, (Below.refl _ _).grown hg1 (Nat.le_refl _) (by simp [Value.ownBlock])⟩
  · obtain ⟨b, off, rfl, hx⟩ := hr.2 (by omega)
    have HX := Lib.hid hx
    have hfl : (flat t).length = n * 7 := by rw [flat_length, hn]
    have HFL := Lib.hid hfl
    clear hr hx hn hfl
    go_enter Try.func19, Try.ntmps19
    go_wp2_with (at_builtin; refine wpList_append_own _ rfl _ _ 22 rfl w.heap.size 33 i0 _ 7 56 Try.underlying22 hi hz0 hz1 hz2 rfl (by decide) (.slice none 0 0) 0 [] rfl (World.ownsRow_nil _ _ _ _) ⟨b, off, none⟩ n c (flat t) rfl HFL.out (fun j u hu => (by rw [Addr.add_lit]; have hj := (List.getElem?_eq_some_iff.1 hu).1; rw [HX.out.2 j hj, List.getD_eq_getElem?_getD, hu]; rfl)) (nd_one _) (by unfold maxLen; omega) (by omega) (Nat.le_refl _) ?_; intro v' w1 hown1 hg1 _)
    go_ret
    refine ⟨_, rfl, by rw [HN.out]; simpa using hown1, (Below.refl _ _).grown hg1 (Nat.le_refl _) (by simp [Value.ownBlock])⟩
end Go.Proofs.Ytamienmbpdbnnaa.T

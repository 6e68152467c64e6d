/- The contracts of ranks, of what places want, of what may stand where. -/
import Derived.Test.YtamienmbpdbnnaaTNames
namespace Go.Proofs.Ytamienmbpdbnnaa.T
open Go Go.RowKit
set_option linter.unusedVariables false
set_option linter.unusedSimpArgs false
theorem ret_int {k : IntKind} {a b : Int} (h : a = b) : Ending.returned (.int k a) = .returned (.int k b) := by rw [h]
theorem ret_ints {k : IntKind} {a b c d : Int} (h : a = b) (h2 : c = d) : Ending.returned (.tuple #[.int k a, .int k c]) = .returned (.tuple #[.int k b, .int k d]) := by rw [h, h2]
theorem ne_b {a b : Int} (h : ¬ a = b) : (a == b) = false := by simpa using h
set_option maxHeartbeats 1000000 in
theorem rank_any (op : Int) (w : World) : Calls Try.prog 32 #[.int .i8 op] w fun e w' => e = .returned (.int .i64 (rankOf op)) ∧ w = w' := by
  have h : op = 34 ∨ op = 35 ∨ op = 36 ∨ op = 37 ∨ op = 38 ∨ op = 39 ∨ op = 40 ∨ op = 41 ∨ op = 42 ∨ op = 43 ∨ op = 44 ∨ op = 45 ∨ op = 46 ∨ op = 47 ∨ op = 48 ∨ (¬ op = 34 ∧ ¬ op = 35 ∧ ¬ op = 36 ∧ ¬ op = 37 ∧ ¬ op = 38 ∧ ¬ op = 39 ∧ ¬ op = 40 ∧ ¬ op = 41 ∧ ¬ op = 42 ∧ ¬ op = 43 ∧ ¬ op = 44 ∧ ¬ op = 45 ∧ ¬ op = 46 ∧ ¬ op = 47 ∧ ¬ op = 48) := by omega
  rcases h with rfl | rfl | rfl | rfl | rfl | rfl | rfl | rfl | rfl | rfl | rfl | rfl | rfl | rfl | rfl | ⟨h34, h35, h36, h37, h38, h39, h40, h41, h42, h43, h44, h45, h46, h47, h48⟩
  · go_enter Try.func32, Try.ntmps32; go_wp2; go_ret; exact ⟨rfl, rfl⟩
  · go_enter Try.func32, Try.ntmps32; go_wp2; go_ret; exact ⟨rfl, rfl⟩
  · go_enter Try.func32, Try.ntmps32; go_wp2; go_ret; exact ⟨rfl, rfl⟩
  · go_enter Try.func32, Try.ntmps32; go_wp2; go_ret; exact ⟨rfl, rfl⟩
  · go_enter Try.func32, Try.ntmps32; go_wp2; go_ret; exact ⟨rfl, rfl⟩
  · go_enter Try.func32, Try.ntmps32; go_wp2; go_ret; exact ⟨rfl, rfl⟩
  · go_enter Try.func32, Try.ntmps32; go_wp2; go_ret; exact ⟨rfl, rfl⟩
  · go_enter Try.func32, Try.ntmps32; go_wp2; go_ret; exact ⟨rfl, rfl⟩
  · go_enter Try.func32, Try.ntmps32; go_wp2; go_ret; exact ⟨rfl, rfl⟩
  · go_enter Try.func32, Try.ntmps32; go_wp2; go_ret; exact ⟨rfl, rfl⟩
  · go_enter Try.func32, Try.ntmps32; go_wp2; go_ret; exact ⟨rfl, rfl⟩
  · go_enter Try.func32, Try.ntmps32; go_wp2; go_ret; exact ⟨rfl, rfl⟩
  · go_enter Try.func32, Try.ntmps32; go_wp2; go_ret; exact ⟨rfl, rfl⟩
  · go_enter Try.func32, Try.ntmps32; go_wp2; go_ret; exact ⟨rfl, rfl⟩
  · go_enter Try.func32, Try.ntmps32; go_wp2; go_ret; exact ⟨rfl, rfl⟩
  · have hr : rankOf op = 8 := by unfold rankOf; (repeat' split) <;> omega
    have HR := Lib.hid hr
    clear hr
    have g34 := ne_b h34
    have g35 := ne_b h35
    have g36 := ne_b h36
    have g37 := ne_b h37
    have g38 := ne_b h38
    have g39 := ne_b h39
    have g40 := ne_b h40
    have g41 := ne_b h41
    have g42 := ne_b h42
    have g43 := ne_b h43
    have g44 := ne_b h44
    have g45 := ne_b h45
    have g46 := ne_b h46
    have g47 := ne_b h47
    have g48 := ne_b h48
    clear h34 h35 h36 h37 h38 h39 h40 h41 h42 h43 h44 h45 h46 h47 h48
    go_enter Try.func32, Try.ntmps32; go_wp2; go_ret; exact ⟨ret_int HR.out.symm, rfl⟩
set_option maxHeartbeats 1000000 in
theorem refRank_any (op : Int) (w : World) : Calls Try.prog 46 #[.int .i8 op] w fun e w' => e = .returned (.int .i64 (rankOf op)) ∧ w = w' := by
  have h : op = 34 ∨ op = 35 ∨ op = 36 ∨ op = 37 ∨ op = 38 ∨ op = 39 ∨ op = 40 ∨ op = 41 ∨ op = 42 ∨ op = 43 ∨ op = 44 ∨ op = 45 ∨ op = 46 ∨ op = 47 ∨ op = 48 ∨ (¬ op = 34 ∧ ¬ op = 35 ∧ ¬ op = 36 ∧ ¬ op = 37 ∧ ¬ op = 38 ∧ ¬ op = 39 ∧ ¬ op = 40 ∧ ¬ op = 41 ∧ ¬ op = 42 ∧ ¬ op = 43 ∧ ¬ op = 44 ∧ ¬ op = 45 ∧ ¬ op = 46 ∧ ¬ op = 47 ∧ ¬ op = 48) := by omega
  rcases h with rfl | rfl | rfl | rfl | rfl | rfl | rfl | rfl | rfl | rfl | rfl | rfl | rfl | rfl | rfl | ⟨h34, h35, h36, h37, h38, h39, h40, h41, h42, h43, h44, h45, h46, h47, h48⟩
  · go_enter Try.func46, Try.ntmps46; go_wp2; go_ret; exact ⟨rfl, rfl⟩
  · go_enter Try.func46, Try.ntmps46; go_wp2; go_ret; exact ⟨rfl, rfl⟩
  · go_enter Try.func46, Try.ntmps46; go_wp2; go_ret; exact ⟨rfl, rfl⟩
  · go_enter Try.func46, Try.ntmps46; go_wp2; go_ret; exact ⟨rfl, rfl⟩
  · go_enter Try.func46, Try.ntmps46; go_wp2; go_ret; exact ⟨rfl, rfl⟩
  · go_enter Try.func46, Try.ntmps46; go_wp2; go_ret; exact ⟨rfl, rfl⟩
  · go_enter Try.func46, Try.ntmps46; go_wp2; go_ret; exact ⟨rfl, rfl⟩
  · go_enter Try.func46, Try.ntmps46; go_wp2; go_ret; exact ⟨rfl, rfl⟩
  · go_enter Try.func46, Try.ntmps46; go_wp2; go_ret; exact ⟨rfl, rfl⟩
  · go_enter Try.func46, Try.ntmps46; go_wp2; go_ret; exact ⟨rfl, rfl⟩
  · go_enter Try.func46, Try.ntmps46; go_wp2; go_ret; exact ⟨rfl, rfl⟩
  · go_enter Try.func46, Try.ntmps46; go_wp2; go_ret; exact ⟨rfl, rfl⟩
  · go_enter Try.func46, Try.ntmps46; go_wp2; go_ret; exact ⟨rfl, rfl⟩
  · go_enter Try.func46, Try.ntmps46; go_wp2; go_ret; exact ⟨rfl, rfl⟩
  · go_enter Try.func46, Try.ntmps46; go_wp2; go_ret; exact ⟨rfl, rfl⟩
  · have hr : rankOf op = 8 := by unfold rankOf; (repeat' split) <;> omega
    have HR := Lib.hid hr
    have hlo : op < 34 ∨ 48 < op := by omega
    clear hr
    have g34 := ne_b h34
    have g35 := ne_b h35
    have g36 := ne_b h36
    have g37 := ne_b h37
    have g38 := ne_b h38
    have g39 := ne_b h39
    have g40 := ne_b h40
    have g41 := ne_b h41
    have g42 := ne_b h42
    have g43 := ne_b h43
    have g44 := ne_b h44
    have g45 := ne_b h45
    have g46 := ne_b h46
    have g47 := ne_b h47
    have g48 := ne_b h48
    clear h34 h35 h36 h37 h38 h39 h40 h41 h42 h43 h44 h45 h46 h47 h48
    rcases hlo with hlo | hlo
    · have : ¬ (38 : Int) ≤ op := by omega
      have : ¬ (46 : Int) ≤ op := by omega
      go_enter Try.func46, Try.ntmps46; go_wp2; go_ret; exact ⟨ret_int HR.out.symm, rfl⟩
    · have : ¬ op ≤ 43 := by omega
      have : ¬ op ≤ 48 := by omega
      have : (38 : Int) ≤ op := by omega
      have : (46 : Int) ≤ op := by omega
      go_enter Try.func46, Try.ntmps46; go_wp2; go_ret; exact ⟨ret_int HR.out.symm, rfl⟩
theorem rank_bd (op : Int) : rankOf op = 1 ∨ rankOf op = 2 ∨ rankOf op = 3 ∨ rankOf op = 4 ∨ rankOf op = 5 ∨ rankOf op = 6 ∨ rankOf op = 7 ∨ rankOf op = 8 := by
  unfold rankOf; (repeat' split) <;> omega
set_option maxHeartbeats 1000000 in
theorem wants_any (op : Int) (w : World) : Calls Try.prog 33 #[.int .i8 op] w fun e w' => e = .returned (.tuple #[.int .i64 (wantsOf op 0), .int .i64 (wantsOf op 1)]) ∧ w = w' := by
  have HW := Lib.hid (show ∀ k, wantsOf op k = if rankOf op = 1 ∨ rankOf op = 2 ∨ rankOf op = 5 ∨ rankOf op = 6 then (if k = 0 then rankOf op else rankOf op + 1) else if rankOf op = 3 ∨ rankOf op = 7 then rankOf op else if rankOf op = 4 then 5 else if op = 49 then 8 else 1 from fun _ => rfl)
  have HR := Lib.hid (fun W => rank_any op W)
  have hb := rank_bd op
  generalize wantsOf op = f at *
  generalize rankOf op = r at *
  rcases hb with rfl | rfl | rfl | rfl | rfl | rfl | rfl | rfl
  · go_enter Try.func33, Try.ntmps33
    go_wp2_with (go_at_call 32; refine (HR.out _).mono ?_; rintro e w1 ⟨rfl, rfl⟩)
    go_ret2
    exact ⟨ret_ints (by rw [HW.out]; simp) (by rw [HW.out]; simp), rfl⟩
  · go_enter Try.func33, Try.ntmps33
    go_wp2_with (go_at_call 32; refine (HR.out _).mono ?_; rintro e w1 ⟨rfl, rfl⟩)
    go_ret2
    exact ⟨ret_ints (by rw [HW.out]; simp) (by rw [HW.out]; simp), rfl⟩
  · go_enter Try.func33, Try.ntmps33
    go_wp2_with (go_at_call 32; refine (HR.out _).mono ?_; rintro e w1 ⟨rfl, rfl⟩)
    go_ret2
    exact ⟨ret_ints (by rw [HW.out]; simp) (by rw [HW.out]; simp), rfl⟩
  · go_enter Try.func33, Try.ntmps33
    go_wp2_with (go_at_call 32; refine (HR.out _).mono ?_; rintro e w1 ⟨rfl, rfl⟩)
    go_ret2
    exact ⟨ret_ints (by rw [HW.out]; simp) (by rw [HW.out]; simp), rfl⟩
  · go_enter Try.func33, Try.ntmps33
    go_wp2_with (go_at_call 32; refine (HR.out _).mono ?_; rintro e w1 ⟨rfl, rfl⟩)
    go_ret2
    exact ⟨ret_ints (by rw [HW.out]; simp) (by rw [HW.out]; simp), rfl⟩
  · go_enter Try.func33, Try.ntmps33
    go_wp2_with (go_at_call 32; refine (HR.out _).mono ?_; rintro e w1 ⟨rfl, rfl⟩)
    go_ret2
    exact ⟨ret_ints (by rw [HW.out]; simp) (by rw [HW.out]; simp), rfl⟩
  · go_enter Try.func33, Try.ntmps33
    go_wp2_with (go_at_call 32; refine (HR.out _).mono ?_; rintro e w1 ⟨rfl, rfl⟩)
    go_ret2
    exact ⟨ret_ints (by rw [HW.out]; simp) (by rw [HW.out]; simp), rfl⟩
  · by_cases h49 : op = 49
    · subst h49
      go_enter Try.func33, Try.ntmps33
      go_wp2_with (go_at_call 32; refine (HR.out _).mono ?_; rintro e w1 ⟨rfl, rfl⟩)
      go_ret2
      exact ⟨ret_ints (by rw [HW.out]; simp) (by rw [HW.out]; simp), rfl⟩
    · have g := ne_b h49
      have H49 := Lib.hid h49
      clear h49
      go_enter Try.func33, Try.ntmps33
      go_wp2_with (go_at_call 32; refine (HR.out _).mono ?_; rintro e w1 ⟨rfl, rfl⟩)
      go_ret2
      exact ⟨ret_ints (by rw [HW.out]; simp [H49.out]) (by rw [HW.out]; simp [H49.out]), rfl⟩
set_option maxHeartbeats 1000000 in
theorem refWants_any (op kid : Int) (hk : 0 ≤ kid) (h1 : kid ≤ 1 ∨ ¬ (rankOf op = 1 ∨ rankOf op = 2 ∨ rankOf op = 5 ∨ rankOf op = 6)) (w : World) : Calls Try.prog 50 #[.int .i8 op, .int .i64 kid] w fun e w' => e = .returned (.int .i64 (wantsOf op kid)) ∧ w = w' := by
  have HW := Lib.hid (show ∀ k, wantsOf op k = if rankOf op = 1 ∨ rankOf op = 2 ∨ rankOf op = 5 ∨ rankOf op = 6 then (if k = 0 then rankOf op else rankOf op + 1) else if rankOf op = 3 ∨ rankOf op = 7 then rankOf op else if rankOf op = 4 then 5 else if op = 49 then 8 else 1 from fun _ => rfl)
  have HR := Lib.hid (fun W => refRank_any op W)
  have hb := rank_bd op
  generalize wantsOf op = f at *
  generalize rankOf op = r at *
  rcases hb with rfl | rfl | rfl | rfl | rfl | rfl | rfl | rfl
  · have h2 : kid = 0 ∨ kid = 1 := by omega
    clear h1 hk
    rcases h2 with rfl | rfl
    · go_enter Try.func50, Try.ntmps50
      go_wp2_with (go_at_call 46; refine (HR.out _).mono ?_; rintro e w1 ⟨rfl, rfl⟩)
      go_ret
      exact ⟨ret_int (by rw [HW.out]; simp), rfl⟩
    · go_enter Try.func50, Try.ntmps50
      go_wp2_with (go_at_call 46; refine (HR.out _).mono ?_; rintro e w1 ⟨rfl, rfl⟩)
      go_ret
      exact ⟨ret_int (by rw [HW.out]; simp), rfl⟩
  · have h2 : kid = 0 ∨ kid = 1 := by omega
    clear h1 hk
    rcases h2 with rfl | rfl
    · go_enter Try.func50, Try.ntmps50
      go_wp2_with (go_at_call 46; refine (HR.out _).mono ?_; rintro e w1 ⟨rfl, rfl⟩)
      go_ret
      exact ⟨ret_int (by rw [HW.out]; simp), rfl⟩
    · go_enter Try.func50, Try.ntmps50
      go_wp2_with (go_at_call 46; refine (HR.out _).mono ?_; rintro e w1 ⟨rfl, rfl⟩)
      go_ret
      exact ⟨ret_int (by rw [HW.out]; simp), rfl⟩
  · clear h1
    go_enter Try.func50, Try.ntmps50
    go_wp2_with (go_at_call 46; refine (HR.out _).mono ?_; rintro e w1 ⟨rfl, rfl⟩)
    go_ret
    exact ⟨ret_int (by rw [HW.out]; simp), rfl⟩
  · clear h1
    go_enter Try.func50, Try.ntmps50
    go_wp2_with (go_at_call 46; refine (HR.out _).mono ?_; rintro e w1 ⟨rfl, rfl⟩)
    go_ret
    exact ⟨ret_int (by rw [HW.out]; simp), rfl⟩
  · have h2 : kid = 0 ∨ kid = 1 := by omega
    clear h1 hk
    rcases h2 with rfl | rfl
    · go_enter Try.func50, Try.ntmps50
      go_wp2_with (go_at_call 46; refine (HR.out _).mono ?_; rintro e w1 ⟨rfl, rfl⟩)
      go_ret
      exact ⟨ret_int (by rw [HW.out]; simp), rfl⟩
    · go_enter Try.func50, Try.ntmps50
      go_wp2_with (go_at_call 46; refine (HR.out _).mono ?_; rintro e w1 ⟨rfl, rfl⟩)
      go_ret
      exact ⟨ret_int (by rw [HW.out]; simp), rfl⟩
  · have h2 : kid = 0 ∨ kid = 1 := by omega
    clear h1 hk
    rcases h2 with rfl | rfl
    · go_enter Try.func50, Try.ntmps50
      go_wp2_with (go_at_call 46; refine (HR.out _).mono ?_; rintro e w1 ⟨rfl, rfl⟩)
      go_ret
      exact ⟨ret_int (by rw [HW.out]; simp), rfl⟩
    · go_enter Try.func50, Try.ntmps50
      go_wp2_with (go_at_call 46; refine (HR.out _).mono ?_; rintro e w1 ⟨rfl, rfl⟩)
      go_ret
      exact ⟨ret_int (by rw [HW.out]; simp), rfl⟩
  · clear h1
    go_enter Try.func50, Try.ntmps50
    go_wp2_with (go_at_call 46; refine (HR.out _).mono ?_; rintro e w1 ⟨rfl, rfl⟩)
    go_ret
    exact ⟨ret_int (by rw [HW.out]; simp), rfl⟩
  · clear h1
    by_cases h49 : op = 49
    · subst h49
      go_enter Try.func50, Try.ntmps50
      go_wp2_with (go_at_call 46; refine (HR.out _).mono ?_; rintro e w1 ⟨rfl, rfl⟩)
      go_ret
      exact ⟨ret_int (by rw [HW.out]; simp), rfl⟩
    · have g := ne_b h49
      have H49 := Lib.hid h49
      clear h49
      go_enter Try.func50, Try.ntmps50
      go_wp2_with (go_at_call 46; refine (HR.out _).mono ?_; rintro e w1 ⟨rfl, rfl⟩)
      go_ret
      exact ⟨ret_int (by rw [HW.out]; simp [H49.out]), rfl⟩
theorem bool_and (a b c d : Int) : (decide (a ≤ b) && decide (c ≤ d)) = decide (a ≤ b ∧ c ≤ d) := by simp
set_option maxHeartbeats 1000000 in
theorem refExpr_any (op : Int) (w : World) : Calls Try.prog 47 #[.int .i8 op] w fun e w' => e = .returned (.bool (exprB op)) ∧ w = w' := by
  by_cases h1 : (30 : Int) ≤ op
  · by_cases h2 : op ≤ 50
    · have hr : exprB op = true := by unfold exprB; simp; omega
      have HR := Lib.hid hr
      clear hr
      go_enter Try.func47, Try.ntmps47
      go_wp2
      go_ret
      exact ⟨ret_bool HR.out.symm, rfl⟩
    · have hr : exprB op = false := by unfold exprB; simp; omega
      have HR := Lib.hid hr
      clear hr
      go_enter Try.func47, Try.ntmps47
      go_wp2
      go_ret
      exact ⟨ret_bool HR.out.symm, rfl⟩
  · have hr : exprB op = false := by unfold exprB; simp; omega
    have HR := Lib.hid hr
    clear hr
    go_enter Try.func47, Try.ntmps47
    go_wp2
    go_ret
    exact ⟨ret_bool HR.out.symm, rfl⟩
set_option maxHeartbeats 2000000 in
theorem takes_any (k op : Int) (h0 : 0 ≤ k) (h7 : k ≤ 7) (w : World) : Calls Try.prog 31 #[.int .i64 k, .int .i8 op] w fun e w' => e = .returned (.bool (takesB k op)) ∧ w = w' := by
  have hk : k = 0 ∨ k = 1 ∨ k = 2 ∨ k = 3 ∨ k = 4 ∨ k = 5 ∨ k = 6 ∨ k = 7 := by omega
  clear h0 h7
  rcases hk with rfl | rfl | rfl | rfl | rfl | rfl | rfl | rfl
  · have hc : op = 1 ∨ (¬ op = 1) := by omega
    rcases hc with rfl | n1
    · have HR := Lib.hid (show takesB 0 1 = true from by decide)
      go_enter Try.func31, Try.ntmps31
      go_wp2
      go_ret
      exact ⟨ret_bool HR.out.symm, rfl⟩
    · have HR := Lib.hid (show takesB 0 op = false from by unfold takesB; simp; omega)
      have g1 := ne_b n1
      clear n1
      go_enter Try.func31, Try.ntmps31
      go_wp2
      go_ret
      exact ⟨ret_bool HR.out.symm, rfl⟩
  · have hc : op = 2 ∨ (¬ op = 2) := by omega
    rcases hc with rfl | n2
    · have HR := Lib.hid (show takesB 1 2 = true from by decide)
      go_enter Try.func31, Try.ntmps31
      go_wp2
      go_ret
      exact ⟨ret_bool HR.out.symm, rfl⟩
    · have HR := Lib.hid (show takesB 1 op = false from by unfold takesB; simp; omega)
      have g2 := ne_b n2
      clear n2
      go_enter Try.func31, Try.ntmps31
      go_wp2
      go_ret
      exact ⟨ret_bool HR.out.symm, rfl⟩
  · by_cases r1 : (3 : Int) ≤ op
    · by_cases r2 : op ≤ 7
      · have HR := Lib.hid (show takesB 2 op = true from by unfold takesB; simp; omega)
        go_enter Try.func31, Try.ntmps31
        go_wp2
        go_ret
        exact ⟨ret_bool HR.out.symm, rfl⟩
      · have HR := Lib.hid (show takesB 2 op = false from by unfold takesB; simp; omega)
        go_enter Try.func31, Try.ntmps31
        go_wp2
        go_ret
        exact ⟨ret_bool HR.out.symm, rfl⟩
    · have HR := Lib.hid (show takesB 2 op = false from by unfold takesB; simp; omega)
      go_enter Try.func31, Try.ntmps31
      go_wp2
      go_ret
      exact ⟨ret_bool HR.out.symm, rfl⟩
  · by_cases r1 : (30 : Int) ≤ op
    · by_cases r2 : op ≤ 50
      · have HR := Lib.hid (show takesB 3 op = true from by unfold takesB; simp; omega)
        go_enter Try.func31, Try.ntmps31
        go_wp2
        go_ret
        exact ⟨ret_bool HR.out.symm, rfl⟩
      · have HR := Lib.hid (show takesB 3 op = false from by unfold takesB; simp; omega)
        go_enter Try.func31, Try.ntmps31
        go_wp2
        go_ret
        exact ⟨ret_bool HR.out.symm, rfl⟩
    · have HR := Lib.hid (show takesB 3 op = false from by unfold takesB; simp; omega)
      go_enter Try.func31, Try.ntmps31
      go_wp2
      go_ret
      exact ⟨ret_bool HR.out.symm, rfl⟩
  · have hc : op = 10 ∨ (¬ op = 10) := by omega
    rcases hc with rfl | n10
    · have HR := Lib.hid (show takesB 4 10 = true from by decide)
      go_enter Try.func31, Try.ntmps31
      go_wp2
      go_ret
      exact ⟨ret_bool HR.out.symm, rfl⟩
    · have HR := Lib.hid (show takesB 4 op = false from by unfold takesB; simp; omega)
      have g10 := ne_b n10
      clear n10
      go_enter Try.func31, Try.ntmps31
      go_wp2
      go_ret
      exact ⟨ret_bool HR.out.symm, rfl⟩
  · by_cases r1 : (11 : Int) ≤ op
    · by_cases r2 : op ≤ 19
      · have HR := Lib.hid (show takesB 5 op = true from by unfold takesB; simp; omega)
        go_enter Try.func31, Try.ntmps31
        go_wp2
        go_ret
        exact ⟨ret_bool HR.out.symm, rfl⟩
      · have HR := Lib.hid (show takesB 5 op = false from by unfold takesB; simp; omega)
        go_enter Try.func31, Try.ntmps31
        go_wp2
        go_ret
        exact ⟨ret_bool HR.out.symm, rfl⟩
    · have HR := Lib.hid (show takesB 5 op = false from by unfold takesB; simp; omega)
      go_enter Try.func31, Try.ntmps31
      go_wp2
      go_ret
      exact ⟨ret_bool HR.out.symm, rfl⟩
  · have hc : op = 10 ∨ op = 13 ∨ (¬ op = 10 ∧ ¬ op = 13) := by omega
    rcases hc with rfl | rfl | ⟨n10, n13⟩
    · have HR := Lib.hid (show takesB 6 10 = true from by decide)
      go_enter Try.func31, Try.ntmps31
      go_wp2
      go_ret
      exact ⟨ret_bool HR.out.symm, rfl⟩
    · have HR := Lib.hid (show takesB 6 13 = true from by decide)
      go_enter Try.func31, Try.ntmps31
      go_wp2
      go_ret
      exact ⟨ret_bool HR.out.symm, rfl⟩
    · have HR := Lib.hid (show takesB 6 op = false from by unfold takesB; simp; omega)
      have g10 := ne_b n10
      have g13 := ne_b n13
      clear n10 n13
      go_enter Try.func31, Try.ntmps31
      go_wp2
      go_ret
      exact ⟨ret_bool HR.out.symm, rfl⟩
  · have hc : op = 51 ∨ op = 52 ∨ (¬ op = 51 ∧ ¬ op = 52) := by omega
    rcases hc with rfl | rfl | ⟨n51, n52⟩
    · have HR := Lib.hid (show takesB 7 51 = true from by decide)
      go_enter Try.func31, Try.ntmps31
      go_wp2
      go_ret
      exact ⟨ret_bool HR.out.symm, rfl⟩
    · have HR := Lib.hid (show takesB 7 52 = true from by decide)
      go_enter Try.func31, Try.ntmps31
      go_wp2
      go_ret
      exact ⟨ret_bool HR.out.symm, rfl⟩
    · by_cases r1 : (30 : Int) ≤ op
      · by_cases r2 : op ≤ 50
        · have HR := Lib.hid (show takesB 7 op = true from by unfold takesB; simp; omega)
          have g51 := ne_b n51
          have g52 := ne_b n52
          clear n51 n52
          go_enter Try.func31, Try.ntmps31
          go_wp2
          go_ret
          exact ⟨ret_bool HR.out.symm, rfl⟩
        · have HR := Lib.hid (show takesB 7 op = false from by unfold takesB; simp; omega)
          have g51 := ne_b n51
          have g52 := ne_b n52
          clear n51 n52
          go_enter Try.func31, Try.ntmps31
          go_wp2
          go_ret
          exact ⟨ret_bool HR.out.symm, rfl⟩
      · have HR := Lib.hid (show takesB 7 op = false from by unfold takesB; simp; omega)
        have g51 := ne_b n51
        have g52 := ne_b n52
        clear n51 n52
        go_enter Try.func31, Try.ntmps31
        go_wp2
        go_ret
        exact ⟨ret_bool HR.out.symm, rfl⟩
set_option maxHeartbeats 2000000 in
theorem wanted_any (k op : Int) (h0 : 0 ≤ k) (h7 : k ≤ 7) (w : World) : Calls Try.prog 40 #[.int .i8 op, .int .i64 k] w fun e w' => e = .returned (.bool (takesB k op)) ∧ w = w' := by
  have hk : k = 0 ∨ k = 1 ∨ k = 2 ∨ k = 3 ∨ k = 4 ∨ k = 5 ∨ k = 6 ∨ k = 7 := by omega
  clear h0 h7
  have HX := Lib.hid (fun W => refExpr_any op W)
  rcases hk with rfl | rfl | rfl | rfl | rfl | rfl | rfl | rfl
  · have hc : op = 1 ∨ (¬ op = 1) := by omega
    rcases hc with rfl | n1
    · have HR := Lib.hid (show takesB 0 1 = true from by decide)
      go_enter Try.func40, Try.ntmps40
      go_wp2_with (go_at_call 47; refine (HX.out _).mono ?_; rintro e w1 ⟨rfl, rfl⟩)
      go_ret
      exact ⟨ret_bool HR.out.symm, rfl⟩
    · have HR := Lib.hid (show takesB 0 op = false from by unfold takesB; simp; omega)
      have g1 := ne_b n1
      clear n1
      go_enter Try.func40, Try.ntmps40
      go_wp2_with (go_at_call 47; refine (HX.out _).mono ?_; rintro e w1 ⟨rfl, rfl⟩)
      go_ret
      exact ⟨ret_bool HR.out.symm, rfl⟩
  · have hc : op = 2 ∨ (¬ op = 2) := by omega
    rcases hc with rfl | n2
    · have HR := Lib.hid (show takesB 1 2 = true from by decide)
      go_enter Try.func40, Try.ntmps40
      go_wp2_with (go_at_call 47; refine (HX.out _).mono ?_; rintro e w1 ⟨rfl, rfl⟩)
      go_ret
      exact ⟨ret_bool HR.out.symm, rfl⟩
    · have HR := Lib.hid (show takesB 1 op = false from by unfold takesB; simp; omega)
      have g2 := ne_b n2
      clear n2
      go_enter Try.func40, Try.ntmps40
      go_wp2_with (go_at_call 47; refine (HX.out _).mono ?_; rintro e w1 ⟨rfl, rfl⟩)
      go_ret
      exact ⟨ret_bool HR.out.symm, rfl⟩
  · by_cases r1 : (3 : Int) ≤ op
    · by_cases r2 : op ≤ 7
      · have HR := Lib.hid (show takesB 2 op = true from by unfold takesB; simp; omega)
        go_enter Try.func40, Try.ntmps40
        go_wp2_with (go_at_call 47; refine (HX.out _).mono ?_; rintro e w1 ⟨rfl, rfl⟩)
        go_ret
        exact ⟨ret_bool HR.out.symm, rfl⟩
      · have HR := Lib.hid (show takesB 2 op = false from by unfold takesB; simp; omega)
        go_enter Try.func40, Try.ntmps40
        go_wp2_with (go_at_call 47; refine (HX.out _).mono ?_; rintro e w1 ⟨rfl, rfl⟩)
        go_ret
        exact ⟨ret_bool HR.out.symm, rfl⟩
    · have HR := Lib.hid (show takesB 2 op = false from by unfold takesB; simp; omega)
      go_enter Try.func40, Try.ntmps40
      go_wp2_with (go_at_call 47; refine (HX.out _).mono ?_; rintro e w1 ⟨rfl, rfl⟩)
      go_ret
      exact ⟨ret_bool HR.out.symm, rfl⟩
  · have HR := Lib.hid (show takesB 3 op = exprB op from by unfold takesB exprB; simp)
    go_enter Try.func40, Try.ntmps40
    go_wp2_with (go_at_call 47; refine (HX.out _).mono ?_; rintro e w1 ⟨rfl, rfl⟩)
    go_ret
    exact ⟨ret_bool HR.out.symm, rfl⟩
  · have hc : op = 10 ∨ (¬ op = 10) := by omega
    rcases hc with rfl | n10
    · have HR := Lib.hid (show takesB 4 10 = true from by decide)
      go_enter Try.func40, Try.ntmps40
      go_wp2_with (go_at_call 47; refine (HX.out _).mono ?_; rintro e w1 ⟨rfl, rfl⟩)
      go_ret
      exact ⟨ret_bool HR.out.symm, rfl⟩
    · have HR := Lib.hid (show takesB 4 op = false from by unfold takesB; simp; omega)
      have g10 := ne_b n10
      clear n10
      go_enter Try.func40, Try.ntmps40
      go_wp2_with (go_at_call 47; refine (HX.out _).mono ?_; rintro e w1 ⟨rfl, rfl⟩)
      go_ret
      exact ⟨ret_bool HR.out.symm, rfl⟩
  · by_cases r1 : (11 : Int) ≤ op
    · by_cases r2 : op ≤ 19
      · have HR := Lib.hid (show takesB 5 op = true from by unfold takesB; simp; omega)
        go_enter Try.func40, Try.ntmps40
        go_wp2_with (go_at_call 47; refine (HX.out _).mono ?_; rintro e w1 ⟨rfl, rfl⟩)
        go_ret
        exact ⟨ret_bool HR.out.symm, rfl⟩
      · have HR := Lib.hid (show takesB 5 op = false from by unfold takesB; simp; omega)
        go_enter Try.func40, Try.ntmps40
        go_wp2_with (go_at_call 47; refine (HX.out _).mono ?_; rintro e w1 ⟨rfl, rfl⟩)
        go_ret
        exact ⟨ret_bool HR.out.symm, rfl⟩
    · have HR := Lib.hid (show takesB 5 op = false from by unfold takesB; simp; omega)
      go_enter Try.func40, Try.ntmps40
      go_wp2_with (go_at_call 47; refine (HX.out _).mono ?_; rintro e w1 ⟨rfl, rfl⟩)
      go_ret
      exact ⟨ret_bool HR.out.symm, rfl⟩
  · have hc : op = 10 ∨ op = 13 ∨ (¬ op = 10 ∧ ¬ op = 13) := by omega
    rcases hc with rfl | rfl | ⟨n10, n13⟩
    · have HR := Lib.hid (show takesB 6 10 = true from by decide)
      go_enter Try.func40, Try.ntmps40
      go_wp2_with (go_at_call 47; refine (HX.out _).mono ?_; rintro e w1 ⟨rfl, rfl⟩)
      go_ret
      exact ⟨ret_bool HR.out.symm, rfl⟩
    · have HR := Lib.hid (show takesB 6 13 = true from by decide)
      go_enter Try.func40, Try.ntmps40
      go_wp2_with (go_at_call 47; refine (HX.out _).mono ?_; rintro e w1 ⟨rfl, rfl⟩)
      go_ret
      exact ⟨ret_bool HR.out.symm, rfl⟩
    · have HR := Lib.hid (show takesB 6 op = false from by unfold takesB; simp; omega)
      have g10 := ne_b n10
      have g13 := ne_b n13
      clear n10 n13
      go_enter Try.func40, Try.ntmps40
      go_wp2_with (go_at_call 47; refine (HX.out _).mono ?_; rintro e w1 ⟨rfl, rfl⟩)
      go_ret
      exact ⟨ret_bool HR.out.symm, rfl⟩
  · have hc : op = 51 ∨ op = 52 ∨ (¬ op = 51 ∧ ¬ op = 52) := by omega
    rcases hc with rfl | rfl | ⟨n51, n52⟩
    · have HR := Lib.hid (show takesB 7 51 = true from by decide)
      go_enter Try.func40, Try.ntmps40
      go_wp2_with (go_at_call 47; refine (HX.out _).mono ?_; rintro e w1 ⟨rfl, rfl⟩)
      go_ret
      exact ⟨ret_bool HR.out.symm, rfl⟩
    · have HR := Lib.hid (show takesB 7 52 = true from by decide)
      go_enter Try.func40, Try.ntmps40
      go_wp2_with (go_at_call 47; refine (HX.out _).mono ?_; rintro e w1 ⟨rfl, rfl⟩)
      go_ret
      exact ⟨ret_bool HR.out.symm, rfl⟩
    · have hR : takesB 7 op = exprB op := by unfold takesB exprB; simp [n51, n52]
      obtain ⟨b, hb⟩ : ∃ b, b = exprB op := ⟨_, rfl⟩
      rw [← hb] at hR HX
      have HR := Lib.hid hR
      clear hR hb
      cases b with
      | true =>
        have g51 := ne_b n51
        have g52 := ne_b n52
        clear n51 n52
        go_enter Try.func40, Try.ntmps40
        go_wp2_with (go_at_call 47; refine (HX.out _).mono ?_; rintro e w1 ⟨rfl, rfl⟩)
        go_ret
        exact ⟨ret_bool HR.out.symm, rfl⟩
      | false =>
        have g51 := ne_b n51
        have g52 := ne_b n52
        clear n51 n52
        go_enter Try.func40, Try.ntmps40
        go_wp2_with (go_at_call 47; refine (HX.out _).mono ?_; rintro e w1 ⟨rfl, rfl⟩)
        go_ret
        exact ⟨ret_bool HR.out.symm, rfl⟩
theorem depth1_any (op : Int) (w : World) : Calls Try.prog 30 #[.int .i8 op] w fun e w' => e = .returned (.bool (exprB op)) ∧ w = w' := by
  have HT := Lib.hid (fun W => takes_any 3 op (by omega) (by omega) W)
  have HE := Lib.hid (show takesB 3 op = exprB op from by unfold takesB exprB; simp)
  go_enter Try.func30, Try.ntmps30
  go_wp2_with (go_at_call 31; refine (HT.out _).mono ?_; rintro e w1 ⟨rfl, rfl⟩)
  go_ret
  exact ⟨ret_bool HE.out, rfl⟩
end Go.Proofs.Ytamienmbpdbnnaa.T

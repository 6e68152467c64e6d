/- The contract of tableauref00.EqEvent. Printed by gen_eqev.py. -/
import Derived.Test.YtmhklnjmeoeanaaGreatDoorDLawM
namespace Go.Proofs.YtmhklnjmeoeanaaGreatDoor.D
open Go Go.RowKit
set_option linter.unusedVariables false
set_option linter.unusedSimpArgs false
set_option maxRecDepth 100000 in
set_option maxHeartbeats 16000000 in
theorem eqEvent_any (x y : EV) (e f : Ev) (w : World) (h : RdEv w x e) (k : RdEv w y f) (hl : e.order.length ≤ 33554432) (kl : f.order.length ≤ 33554432) : Calls Tryz.prog 42 #[x.val e, y.val f] w (BoolPost (decide (e = f)) w) := by
  have HE := Lib.hid (fun W (hW : Below w.heap.size w W) => G.eqInts_any x.oa y.oa e.order.length f.order.length x.oc y.oc e.order f.order W (RdEv.below h hW) (RdEv.below k hW) (by unfold maxLen; omega) (by unfold maxLen; omega))
  obtain ⟨oa, oc⟩ := x
  obtain ⟨pa, pc⟩ := y
  obtain ⟨a0, a1, a2, a3, a4, a5, a6, a7, a8, a9, a10, order⟩ := e
  obtain ⟨b0, b1, b2, b3, b4, b5, b6, b7, b8, b9, b10, order2⟩ := f
  simp only at HE hl kl
  unfold EV.val EV.arr
  simp only
  clear h k
  obtain ⟨n, hn⟩ : ∃ n, n = order.length := ⟨_, rfl⟩
  obtain ⟨m, hm⟩ : ∃ m, m = order2.length := ⟨_, rfl⟩
  rw [← hn, ← hm] at HE
  rw [← hn, ← hm]
  clear hn hm hl kl
  have HB := Lib.hid (G.bl_alloc (G.bl_alloc (Below.refl w.heap.size w) (.cells #[.int .i8 a0, .int .i8 a1, .int .i64 a2, .int .i64 a3, .int .i64 a4, .int .i64 a5, .int .i64 a6, .int .i64 a7, .int .i64 a8, .int .i32 a9, .int .i32 a10, .slice oa n oc] 37)) (.cells #[.int .i8 b0, .int .i8 b1, .int .i64 b2, .int .i64 b3, .int .i64 b4, .int .i64 b5, .int .i64 b6, .int .i64 b7, .int .i64 b8, .int .i32 b9, .int .i32 b10, .slice pa m pc] 37))
  by_cases c0 : a0 = b0
  · by_cases c1 : a1 = b1
    · by_cases c2 : a2 = b2
      · by_cases c3 : a3 = b3
        · by_cases c4 : a4 = b4
          · by_cases c5 : a5 = b5
            · by_cases c6 : a6 = b6
              · by_cases c7 : a7 = b7
                · by_cases c8 : a8 = b8
                  · by_cases c9 : a9 = b9
                    · by_cases c10 : a10 = b10
                      · subst c0 c1 c2 c3 c4 c5 c6 c7 c8 c9 c10
                        have HD := Lib.hid (show decide ((⟨a0, a1, a2, a3, a4, a5, a6, a7, a8, a9, a10, order⟩ : Ev) = ⟨a0, a1, a2, a3, a4, a5, a6, a7, a8, a9, a10, order2⟩) = decide (order = order2) by simp)
                        go_enter Tryz.func42, Tryz.ntmps42
                        go_wp2_with ((with_reducible refine (HE.out _ HB.out).mono ?_); rintro e1 w1 ⟨rfl, q1, rfl⟩)
                        go_ret
                        exact ⟨ret_bool HD.out.symm, G.bl_drewN HB.out _⟩
                      · subst c0 c1 c2 c3 c4 c5 c6 c7 c8 c9
                        have HD := Lib.hid (show decide ((⟨a0, a1, a2, a3, a4, a5, a6, a7, a8, a9, a10, order⟩ : Ev) = ⟨a0, a1, a2, a3, a4, a5, a6, a7, a8, a9, b10, order2⟩) = false from decide_eq_false (fun e => c10 (congrArg Ev.now e)))
                        have b : (a10 != b10) = true := by rw [bne_iff_ne]; exact c10
                        clear c10
                        go_enter Tryz.func42, Tryz.ntmps42
                        go_wp2_with fail
                        go_ret
                        exact ⟨ret_bool HD.out.symm, HB.out⟩
                    · subst c0 c1 c2 c3 c4 c5 c6 c7 c8
                      have HD := Lib.hid (show decide ((⟨a0, a1, a2, a3, a4, a5, a6, a7, a8, a9, a10, order⟩ : Ev) = ⟨a0, a1, a2, a3, a4, a5, a6, a7, a8, b9, b10, order2⟩) = false from decide_eq_false (fun e => c9 (congrArg Ev.was e)))
                      have b : (a9 != b9) = true := by rw [bne_iff_ne]; exact c9
                      clear c9
                      go_enter Tryz.func42, Tryz.ntmps42
                      go_wp2_with fail
                      go_ret
                      exact ⟨ret_bool HD.out.symm, HB.out⟩
                  · subst c0 c1 c2 c3 c4 c5 c6 c7
                    have HD := Lib.hid (show decide ((⟨a0, a1, a2, a3, a4, a5, a6, a7, a8, a9, a10, order⟩ : Ev) = ⟨a0, a1, a2, a3, a4, a5, a6, a7, b8, b9, b10, order2⟩) = false from decide_eq_false (fun e => c8 (congrArg Ev.dstAt e)))
                    have b : (a8 != b8) = true := by rw [bne_iff_ne]; exact c8
                    clear c8
                    go_enter Tryz.func42, Tryz.ntmps42
                    go_wp2_with fail
                    go_ret
                    exact ⟨ret_bool HD.out.symm, HB.out⟩
                · subst c0 c1 c2 c3 c4 c5 c6
                  have HD := Lib.hid (show decide ((⟨a0, a1, a2, a3, a4, a5, a6, a7, a8, a9, a10, order⟩ : Ev) = ⟨a0, a1, a2, a3, a4, a5, a6, b7, b8, b9, b10, order2⟩) = false from decide_eq_false (fun e => c7 (congrArg Ev.dst e)))
                  have b : (a7 != b7) = true := by rw [bne_iff_ne]; exact c7
                  clear c7
                  go_enter Tryz.func42, Tryz.ntmps42
                  go_wp2_with fail
                  go_ret
                  exact ⟨ret_bool HD.out.symm, HB.out⟩
              · subst c0 c1 c2 c3 c4 c5
                have HD := Lib.hid (show decide ((⟨a0, a1, a2, a3, a4, a5, a6, a7, a8, a9, a10, order⟩ : Ev) = ⟨a0, a1, a2, a3, a4, a5, b6, b7, b8, b9, b10, order2⟩) = false from decide_eq_false (fun e => c6 (congrArg Ev.srcAt e)))
                have b : (a6 != b6) = true := by rw [bne_iff_ne]; exact c6
                clear c6
                go_enter Tryz.func42, Tryz.ntmps42
                go_wp2_with fail
                go_ret
                exact ⟨ret_bool HD.out.symm, HB.out⟩
            · subst c0 c1 c2 c3 c4
              have HD := Lib.hid (show decide ((⟨a0, a1, a2, a3, a4, a5, a6, a7, a8, a9, a10, order⟩ : Ev) = ⟨a0, a1, a2, a3, a4, b5, b6, b7, b8, b9, b10, order2⟩) = false from decide_eq_false (fun e => c5 (congrArg Ev.src e)))
              have b : (a5 != b5) = true := by rw [bne_iff_ne]; exact c5
              clear c5
              go_enter Tryz.func42, Tryz.ntmps42
              go_wp2_with fail
              go_ret
              exact ⟨ret_bool HD.out.symm, HB.out⟩
          · subst c0 c1 c2 c3
            have HD := Lib.hid (show decide ((⟨a0, a1, a2, a3, a4, a5, a6, a7, a8, a9, a10, order⟩ : Ev) = ⟨a0, a1, a2, a3, b4, b5, b6, b7, b8, b9, b10, order2⟩) = false from decide_eq_false (fun e => c4 (congrArg Ev.other e)))
            have b : (a4 != b4) = true := by rw [bne_iff_ne]; exact c4
            clear c4
            go_enter Tryz.func42, Tryz.ntmps42
            go_wp2_with fail
            go_ret
            exact ⟨ret_bool HD.out.symm, HB.out⟩
        · subst c0 c1 c2
          have HD := Lib.hid (show decide ((⟨a0, a1, a2, a3, a4, a5, a6, a7, a8, a9, a10, order⟩ : Ev) = ⟨a0, a1, a2, b3, b4, b5, b6, b7, b8, b9, b10, order2⟩) = false from decide_eq_false (fun e => c3 (congrArg Ev.player e)))
          have b : (a3 != b3) = true := by rw [bne_iff_ne]; exact c3
          clear c3
          go_enter Tryz.func42, Tryz.ntmps42
          go_wp2_with fail
          go_ret
          exact ⟨ret_bool HD.out.symm, HB.out⟩
      · subst c0 c1
        have HD := Lib.hid (show decide ((⟨a0, a1, a2, a3, a4, a5, a6, a7, a8, a9, a10, order⟩ : Ev) = ⟨a0, a1, b2, b3, b4, b5, b6, b7, b8, b9, b10, order2⟩) = false from decide_eq_false (fun e => c2 (congrArg Ev.card e)))
        have b : (a2 != b2) = true := by rw [bne_iff_ne]; exact c2
        clear c2
        go_enter Tryz.func42, Tryz.ntmps42
        go_wp2_with fail
        go_ret
        exact ⟨ret_bool HD.out.symm, HB.out⟩
    · subst c0
      have HD := Lib.hid (show decide ((⟨a0, a1, a2, a3, a4, a5, a6, a7, a8, a9, a10, order⟩ : Ev) = ⟨a0, b1, b2, b3, b4, b5, b6, b7, b8, b9, b10, order2⟩) = false from decide_eq_false (fun e => c1 (congrArg Ev.field e)))
      have b : (a1 != b1) = true := by rw [bne_iff_ne]; exact c1
      clear c1
      go_enter Tryz.func42, Tryz.ntmps42
      go_wp2_with fail
      go_ret
      exact ⟨ret_bool HD.out.symm, HB.out⟩
  · skip
    have HD := Lib.hid (show decide ((⟨a0, a1, a2, a3, a4, a5, a6, a7, a8, a9, a10, order⟩ : Ev) = ⟨b0, b1, b2, b3, b4, b5, b6, b7, b8, b9, b10, order2⟩) = false from decide_eq_false (fun e => c0 (congrArg Ev.kind e)))
    have b : (a0 != b0) = true := by rw [bne_iff_ne]; exact c0
    clear c0
    go_enter Tryz.func42, Tryz.ntmps42
    go_wp2_with fail
    go_ret
    exact ⟨ret_bool HD.out.symm, HB.out⟩
end Go.Proofs.YtmhklnjmeoeanaaGreatDoor.D

/- The contracts of the closures that end a game and take the end back. Printed by gen_end.py. -/
import Derived.Test.YtmhklnjmeoeanaaGreatDoorDMoveA
import Derived.Test.YtmhklnjmeoeanaaGreatDoorDMoveB
import Derived.Test.YtmhklnjmeoeanaaGreatDoorDField
import Derived.Test.YtmhklnjmeoeanaaGreatDoorDShuf
import Derived.RegionTactic
import Derived.ChangeAlike
namespace Go.Proofs.YtmhklnjmeoeanaaGreatDoor.D
open Go Go.RowKit
set_option linter.unusedVariables false
set_option linter.unusedSimpArgs false
set_option maxRecDepth 100000 in
set_option maxHeartbeats 8000000 in
theorem move_any (g base : Nat) (x : SV) (s : St) (w : World) (hs : StAt w g base x s) (hz : Sz s) (card src srcAt dst dstAt : Int) :
    Calls Tryz.prog 117 #[.pointer (some ⟨g, 0, none⟩), .int .i64 card, .int .i64 src, .int .i64 srcAt, .int .i64 dst, .int .i64 dstAt] w (StepPost s (moveS s card src srcAt dst dstAt) g base w) := by
  have HS := Lib.hid hs
  have HZ := Lib.hid hz
  have hnz := hz.z
  obtain ⟨c0, c1, c2, c3, c4, c5, c6⟩ := hs.cells
  have hlt := hs.blk.lt
  obtain ⟨n, hn⟩ : ∃ n, n = s.zones.length := ⟨_, rfl⟩
  rw [← hn] at hnz c2
  have HN := Lib.hid hn
  clear hs hz hn c0 c1 c3 c4 c5 c6
  by_cases h1 : 0 ≤ src
  · by_cases h2 : src < n
    · by_cases h3 : 0 ≤ dst
      · by_cases h4 : dst < n
        · by_cases h5 : src = dst ∧ srcAt = dstAt
          · have hb1 : (src == dst) = true := by rw [h5.1]; simp
            have hb2 : (srcAt == dstAt) = true := by rw [h5.2]; simp
            have HO := Lib.hid (moveS_no (s := s) (fun h => h.2.2.1 h5 : ¬ MoveOk s card src srcAt dst dstAt))
            clear h5
            go_enter Tryz.func117, Tryz.ntmps117
            go_wp2_with fail
            go_ret
            exact stepP_no HO.out (Bk.refl _ _)
          · by_cases e : src = dst
            · exact move_eq g base x s w HS.out HZ.out card src srcAt dst dstAt h1 (by rw [← HN.out]; exact h2) h3 (by rw [← HN.out]; exact h4) h5 ⟨by rw [e]; simp, by rw [beq_eq_false_iff_ne]; exact fun e2 => h5 ⟨e, e2⟩⟩
            · exact move_ne g base x s w HS.out HZ.out card src srcAt dst dstAt h1 (by rw [← HN.out]; exact h2) h3 (by rw [← HN.out]; exact h4) h5 (by rw [beq_eq_false_iff_ne]; exact e)
        · have HO := Lib.hid (moveS_no (s := s) (fun h => h4 (by have := h.2.1.2; rw [← HN.out] at this; exact this) : ¬ MoveOk s card src srcAt dst dstAt))
          go_enter Tryz.func117, Tryz.ntmps117
          go_wp2_with fail
          go_ret
          exact stepP_no HO.out (Bk.refl _ _)
      · have HO := Lib.hid (moveS_no (s := s) (fun h => h3 h.2.1.1 : ¬ MoveOk s card src srcAt dst dstAt))
        go_enter Tryz.func117, Tryz.ntmps117
        go_wp2_with fail
        go_ret
        exact stepP_no HO.out (Bk.refl _ _)
    · have HO := Lib.hid (moveS_no (s := s) (fun h => h2 (by have := h.1.2; rw [← HN.out] at this; exact this) : ¬ MoveOk s card src srcAt dst dstAt))
      go_enter Tryz.func117, Tryz.ntmps117
      go_wp2_with fail
      go_ret
      exact stepP_no HO.out (Bk.refl _ _)
  · have HO := Lib.hid (moveS_no (s := s) (fun h => h1 h.1.1 : ¬ MoveOk s card src srcAt dst dstAt))
    go_enter Tryz.func117, Tryz.ntmps117
    go_wp2_with fail
    go_ret
    exact stepP_no HO.out (Bk.refl _ _)
end Go.Proofs.YtmhklnjmeoeanaaGreatDoor.D
namespace Go.Proofs.YtmhklnjmeoeanaaGreatDoor.D
open Go Go.RowKit
set_option linter.unusedVariables false
set_option linter.unusedSimpArgs false
theorem StepPost.lift {s : St} {o : Option St} {g base : Nat} {w w1 : World} {e : Ending} {w' : World} (h : StepPost s o g base w1 e w') (hb : Bk base w w1) : StepPost s o g base w e w' := by
  obtain ⟨b, he, hb2, hc⟩ := h
  exact ⟨b, he, hb.trans hb2, hc⟩
theorem StAt.base_le {w : World} {g base : Nat} {x : SV} {s : St} (h : StAt w g base x s) : base ≤ w.heap.size := by
  have h8 := h.ge
  have h9 := h.blk.lt
  omega
theorem may_sz {s : St} (h : May s) : Sz s := ⟨by have := h.n4; omega, by have := h.m256; omega, by have := h.zn; have := h.n4; omega, fun i => by have := may_zone h i; omega⟩
set_option maxHeartbeats 2000000 in
theorem do1_any (g base : Nat) (x : SV) (s : St) (w : World) (y : EV) (e : Ev) (hs : StAt w g base x s) (hm : May s) (hr : RdEv w y e) (hf : e.Fits) (hl : e.order.length ≤ 33554432) : Calls Tryz.prog 116 #[.pointer (some ⟨g, 0, none⟩), y.val e] w (StepPost s (moveS s e.card e.src e.srcAt e.dst e.dstAt) g base w) := by
  have HS := Lib.hid hs
  have HM := Lib.hid hm
  have HR := Lib.hid hr
  have HF := Lib.hid hf
  have HZ := Lib.hid (may_sz hm)
  have HC := Lib.hid (fun W (hW : Below w.heap.size w W) => move_any g base x s W (HS.out.below hW) HZ.out e.card e.src e.srcAt e.dst e.dstAt)
  obtain ⟨kind, field, card, player, other, src, srcAt, dst, dstAt, was, now, order⟩ := e
  obtain ⟨oa, oc⟩ := y
  unfold EV.val EV.arr
  simp only at HC hl ⊢
  clear hs hm hr hf
  go_enter Tryz.func116, Tryz.ntmps116
  go_wp2_with fail
  refine (HC.out _ (G.bl_alloc (Below.refl _ _) _)).mono ?_
  rintro en w' hp
  have HP := Lib.hid (hp.lift (Bk.of (G.bl_alloc (Below.refl _ _) _) HS.out.base_le))
  obtain ⟨b, rfl, hb, hc⟩ := hp
  clear hb hc
  go_wp2_with fail
  go_ret
  exact HP.out
set_option maxHeartbeats 2000000 in
theorem back1_any (g base : Nat) (x : SV) (s : St) (w : World) (y : EV) (e : Ev) (hs : StAt w g base x s) (hm : May s) (hr : RdEv w y e) (hf : e.Fits) (hl : e.order.length ≤ 33554432) : Calls Tryz.prog 118 #[.pointer (some ⟨g, 0, none⟩), y.val e] w (StepPost s (moveS s e.card e.dst e.dstAt e.src e.srcAt) g base w) := by
  have HS := Lib.hid hs
  have HM := Lib.hid hm
  have HR := Lib.hid hr
  have HF := Lib.hid hf
  have HZ := Lib.hid (may_sz hm)
  have HC := Lib.hid (fun W (hW : Below w.heap.size w W) => move_any g base x s W (HS.out.below hW) HZ.out e.card e.dst e.dstAt e.src e.srcAt)
  obtain ⟨kind, field, card, player, other, src, srcAt, dst, dstAt, was, now, order⟩ := e
  obtain ⟨oa, oc⟩ := y
  unfold EV.val EV.arr
  simp only at HC hl ⊢
  clear hs hm hr hf
  go_enter Tryz.func118, Tryz.ntmps118
  go_wp2_with fail
  refine (HC.out _ (G.bl_alloc (Below.refl _ _) _)).mono ?_
  rintro en w' hp
  have HP := Lib.hid (hp.lift (Bk.of (G.bl_alloc (Below.refl _ _) _) HS.out.base_le))
  obtain ⟨b, rfl, hb, hc⟩ := hp
  clear hb hc
  go_wp2_with fail
  go_ret
  exact HP.out
set_option maxHeartbeats 2000000 in
theorem do2_any (g base : Nat) (x : SV) (s : St) (w : World) (y : EV) (e : Ev) (hs : StAt w g base x s) (hm : May s) (hr : RdEv w y e) (hf : e.Fits) (hl : e.order.length ≤ 33554432) : Calls Tryz.prog 122 #[.pointer (some ⟨g, 0, none⟩), y.val e] w (StepPost s (if e.field ≤ 4 then changeS s e.field e.card e.was e.now else none) g base w) := by
  have HS := Lib.hid hs
  have HM := Lib.hid hm
  have HR := Lib.hid hr
  have HF := Lib.hid hf
  have HZ := Lib.hid (may_sz hm)
  have HC := Lib.hid (fun W (hW : Below w.heap.size w W) => change_any g base x s W (HS.out.below hW) HZ.out e.field e.card e.was e.now HF.out.field)
  obtain ⟨kind, field, card, player, other, src, srcAt, dst, dstAt, was, now, order⟩ := e
  obtain ⟨oa, oc⟩ := y
  unfold EV.val EV.arr
  simp only at HC hl ⊢
  clear hs hm hr hf
  by_cases hg : field ≤ 4
  · rw [if_pos hg]
    go_enter Tryz.func122, Tryz.ntmps122
    go_wp2_with fail
    refine (HC.out _ (G.bl_alloc (Below.refl _ _) _)).mono ?_
    rintro en w' hp
    have HP := Lib.hid (hp.lift (Bk.of (G.bl_alloc (Below.refl _ _) _) HS.out.base_le))
    obtain ⟨b, rfl, hb, hc⟩ := hp
    clear hb hc
    go_wp2_with fail
    go_ret
    exact HP.out
  · rw [if_neg hg]
    go_enter Tryz.func122, Tryz.ntmps122
    go_wp2_with fail
    go_ret
    exact stepP_no rfl (Bk.of (G.bl_alloc (Below.refl _ _) _) HS.out.base_le)
set_option maxHeartbeats 2000000 in
theorem back2_any (g base : Nat) (x : SV) (s : St) (w : World) (y : EV) (e : Ev) (hs : StAt w g base x s) (hm : May s) (hr : RdEv w y e) (hf : e.Fits) (hl : e.order.length ≤ 33554432) : Calls Tryz.prog 124 #[.pointer (some ⟨g, 0, none⟩), y.val e] w (StepPost s (if e.field ≤ 4 then changeS s e.field e.card e.now e.was else none) g base w) := by
  have HS := Lib.hid hs
  have HM := Lib.hid hm
  have HR := Lib.hid hr
  have HF := Lib.hid hf
  have HZ := Lib.hid (may_sz hm)
  have HC := Lib.hid (fun W (hW : Below w.heap.size w W) => change_any g base x s W (HS.out.below hW) HZ.out e.field e.card e.now e.was HF.out.field)
  obtain ⟨kind, field, card, player, other, src, srcAt, dst, dstAt, was, now, order⟩ := e
  obtain ⟨oa, oc⟩ := y
  unfold EV.val EV.arr
  simp only at HC hl ⊢
  clear hs hm hr hf
  by_cases hg : field ≤ 4
  · rw [if_pos hg]
    go_enter Tryz.func124, Tryz.ntmps124
    go_wp2_with fail
    refine (HC.out _ (G.bl_alloc (Below.refl _ _) _)).mono ?_
    rintro en w' hp
    have HP := Lib.hid (hp.lift (Bk.of (G.bl_alloc (Below.refl _ _) _) HS.out.base_le))
    obtain ⟨b, rfl, hb, hc⟩ := hp
    clear hb hc
    go_wp2_with fail
    go_ret
    exact HP.out
  · rw [if_neg hg]
    go_enter Tryz.func124, Tryz.ntmps124
    go_wp2_with fail
    go_ret
    exact stepP_no rfl (Bk.of (G.bl_alloc (Below.refl _ _) _) HS.out.base_le)
set_option maxHeartbeats 2000000 in
theorem do3_any (g base : Nat) (x : SV) (s : St) (w : World) (y : EV) (e : Ev) (hs : StAt w g base x s) (hm : May s) (hr : RdEv w y e) (hf : e.Fits) (hl : e.order.length ≤ 33554432) : Calls Tryz.prog 128 #[.pointer (some ⟨g, 0, none⟩), y.val e] w (StepPost s (if 5 ≤ e.field then changeS s e.field e.player e.was e.now else none) g base w) := by
  have HS := Lib.hid hs
  have HM := Lib.hid hm
  have HR := Lib.hid hr
  have HF := Lib.hid hf
  have HZ := Lib.hid (may_sz hm)
  have HC := Lib.hid (fun W (hW : Below w.heap.size w W) => change_any g base x s W (HS.out.below hW) HZ.out e.field e.player e.was e.now HF.out.field)
  obtain ⟨kind, field, card, player, other, src, srcAt, dst, dstAt, was, now, order⟩ := e
  obtain ⟨oa, oc⟩ := y
  unfold EV.val EV.arr
  simp only at HC hl ⊢
  clear hs hm hr hf
  by_cases hg : 5 ≤ field
  · rw [if_pos hg]
    go_enter Tryz.func128, Tryz.ntmps128
    go_wp2_with fail
    refine (HC.out _ (G.bl_alloc (Below.refl _ _) _)).mono ?_
    rintro en w' hp
    have HP := Lib.hid (hp.lift (Bk.of (G.bl_alloc (Below.refl _ _) _) HS.out.base_le))
    obtain ⟨b, rfl, hb, hc⟩ := hp
    clear hb hc
    go_wp2_with fail
    go_ret
    exact HP.out
  · rw [if_neg hg]
    go_enter Tryz.func128, Tryz.ntmps128
    go_wp2_with fail
    go_ret
    exact stepP_no rfl (Bk.of (G.bl_alloc (Below.refl _ _) _) HS.out.base_le)
set_option maxHeartbeats 2000000 in
theorem back3_any (g base : Nat) (x : SV) (s : St) (w : World) (y : EV) (e : Ev) (hs : StAt w g base x s) (hm : May s) (hr : RdEv w y e) (hf : e.Fits) (hl : e.order.length ≤ 33554432) : Calls Tryz.prog 129 #[.pointer (some ⟨g, 0, none⟩), y.val e] w (StepPost s (if 5 ≤ e.field then changeS s e.field e.player e.now e.was else none) g base w) := by
  have HS := Lib.hid hs
  have HM := Lib.hid hm
  have HR := Lib.hid hr
  have HF := Lib.hid hf
  have HZ := Lib.hid (may_sz hm)
  have HC := Lib.hid (fun W (hW : Below w.heap.size w W) => change_any g base x s W (HS.out.below hW) HZ.out e.field e.player e.now e.was HF.out.field)
  obtain ⟨kind, field, card, player, other, src, srcAt, dst, dstAt, was, now, order⟩ := e
  obtain ⟨oa, oc⟩ := y
  unfold EV.val EV.arr
  simp only at HC hl ⊢
  clear hs hm hr hf
  by_cases hg : 5 ≤ field
  · rw [if_pos hg]
    go_enter Tryz.func129, Tryz.ntmps129
    go_wp2_with fail
    refine (HC.out _ (G.bl_alloc (Below.refl _ _) _)).mono ?_
    rintro en w' hp
    have HP := Lib.hid (hp.lift (Bk.of (G.bl_alloc (Below.refl _ _) _) HS.out.base_le))
    obtain ⟨b, rfl, hb, hc⟩ := hp
    clear hb hc
    go_wp2_with fail
    go_ret
    exact HP.out
  · rw [if_neg hg]
    go_enter Tryz.func129, Tryz.ntmps129
    go_wp2_with fail
    go_ret
    exact stepP_no rfl (Bk.of (G.bl_alloc (Below.refl _ _) _) HS.out.base_le)
set_option maxHeartbeats 2000000 in
theorem do4_any (g base : Nat) (x : SV) (s : St) (w : World) (y : EV) (e : Ev) (hs : StAt w g base x s) (hm : May s) (hr : RdEv w y e) (hf : e.Fits) (hl : e.order.length ≤ 33554432) : Calls Tryz.prog 132 #[.pointer (some ⟨g, 0, none⟩), y.val e] w (StepPost s (shuffleS s e.src e.order false) g base w) := by
  have HS := Lib.hid hs
  have HM := Lib.hid hm
  have HR := Lib.hid hr
  have HF := Lib.hid hf
  have HZ := Lib.hid (may_sz hm)
  have HC := Lib.hid (fun W (hW : Below w.heap.size w W) => shuffle_any g base x s W (HS.out.below hW) HM.out e.src y.oa y.oc e.order false (HR.out.below hW) hl)
  obtain ⟨kind, field, card, player, other, src, srcAt, dst, dstAt, was, now, order⟩ := e
  obtain ⟨oa, oc⟩ := y
  unfold EV.val EV.arr
  simp only at HC hl ⊢
  clear hs hm hr hf
  go_enter Tryz.func132, Tryz.ntmps132
  go_wp2_with fail
  refine (HC.out _ (G.bl_alloc (Below.refl _ _) _)).mono ?_
  rintro en w' hp
  have HP := Lib.hid (hp.lift (Bk.of (G.bl_alloc (Below.refl _ _) _) HS.out.base_le))
  obtain ⟨b, rfl, hb, hc⟩ := hp
  clear hb hc
  go_wp2_with fail
  go_ret
  exact HP.out
set_option maxHeartbeats 2000000 in
theorem back4_any (g base : Nat) (x : SV) (s : St) (w : World) (y : EV) (e : Ev) (hs : StAt w g base x s) (hm : May s) (hr : RdEv w y e) (hf : e.Fits) (hl : e.order.length ≤ 33554432) : Calls Tryz.prog 134 #[.pointer (some ⟨g, 0, none⟩), y.val e] w (StepPost s (shuffleS s e.src e.order true) g base w) := by
  have HS := Lib.hid hs
  have HM := Lib.hid hm
  have HR := Lib.hid hr
  have HF := Lib.hid hf
  have HZ := Lib.hid (may_sz hm)
  have HC := Lib.hid (fun W (hW : Below w.heap.size w W) => shuffle_any g base x s W (HS.out.below hW) HM.out e.src y.oa y.oc e.order true (HR.out.below hW) hl)
  obtain ⟨kind, field, card, player, other, src, srcAt, dst, dstAt, was, now, order⟩ := e
  obtain ⟨oa, oc⟩ := y
  unfold EV.val EV.arr
  simp only at HC hl ⊢
  clear hs hm hr hf
  go_enter Tryz.func134, Tryz.ntmps134
  go_wp2_with fail
  refine (HC.out _ (G.bl_alloc (Below.refl _ _) _)).mono ?_
  rintro en w' hp
  have HP := Lib.hid (hp.lift (Bk.of (G.bl_alloc (Below.refl _ _) _) HS.out.base_le))
  obtain ⟨b, rfl, hb, hc⟩ := hp
  clear hb hc
  go_wp2_with fail
  go_ret
  exact HP.out
set_option maxHeartbeats 2000000 in
theorem do5_any (g base : Nat) (x : SV) (s : St) (w : World) (y : EV) (e : Ev) (hs : StAt w g base x s) (hm : May s) (hr : RdEv w y e) (hf : e.Fits) (hl : e.order.length ≤ 33554432) : Calls Tryz.prog 139 #[.pointer (some ⟨g, 0, none⟩), y.val e] w (StepPost s (outS s e.player true) g base w) := by
  have HS := Lib.hid hs
  have HM := Lib.hid hm
  have HR := Lib.hid hr
  have HF := Lib.hid hf
  have HZ := Lib.hid (may_sz hm)
  have HC := Lib.hid (fun W (hW : Below w.heap.size w W) => out_any g base x s W (HS.out.below hW) HZ.out e.player true)
  obtain ⟨kind, field, card, player, other, src, srcAt, dst, dstAt, was, now, order⟩ := e
  obtain ⟨oa, oc⟩ := y
  unfold EV.val EV.arr
  simp only at HC hl ⊢
  clear hs hm hr hf
  go_enter Tryz.func139, Tryz.ntmps139
  go_wp2_with fail
  refine (HC.out _ (G.bl_alloc (Below.refl _ _) _)).mono ?_
  rintro en w' hp
  have HP := Lib.hid (hp.lift (Bk.of (G.bl_alloc (Below.refl _ _) _) HS.out.base_le))
  obtain ⟨b, rfl, hb, hc⟩ := hp
  clear hb hc
  go_wp2_with fail
  go_ret
  exact HP.out
set_option maxHeartbeats 2000000 in
theorem back5_any (g base : Nat) (x : SV) (s : St) (w : World) (y : EV) (e : Ev) (hs : StAt w g base x s) (hm : May s) (hr : RdEv w y e) (hf : e.Fits) (hl : e.order.length ≤ 33554432) : Calls Tryz.prog 141 #[.pointer (some ⟨g, 0, none⟩), y.val e] w (StepPost s (outS s e.player false) g base w) := by
  have HS := Lib.hid hs
  have HM := Lib.hid hm
  have HR := Lib.hid hr
  have HF := Lib.hid hf
  have HZ := Lib.hid (may_sz hm)
  have HC := Lib.hid (fun W (hW : Below w.heap.size w W) => out_any g base x s W (HS.out.below hW) HZ.out e.player false)
  obtain ⟨kind, field, card, player, other, src, srcAt, dst, dstAt, was, now, order⟩ := e
  obtain ⟨oa, oc⟩ := y
  unfold EV.val EV.arr
  simp only at HC hl ⊢
  clear hs hm hr hf
  go_enter Tryz.func141, Tryz.ntmps141
  go_wp2_with fail
  refine (HC.out _ (G.bl_alloc (Below.refl _ _) _)).mono ?_
  rintro en w' hp
  have HP := Lib.hid (hp.lift (Bk.of (G.bl_alloc (Below.refl _ _) _) HS.out.base_le))
  obtain ⟨b, rfl, hb, hc⟩ := hp
  clear hb hc
  go_wp2_with fail
  go_ret
  exact HP.out
set_option maxHeartbeats 2000000 in
theorem do6_any (g base : Nat) (x : SV) (s : St) (w : World) (y : EV) (e : Ev) (hs : StAt w g base x s) (hm : May s) (hr : RdEv w y e) (hf : e.Fits) (hl : e.order.length ≤ 33554432) : Calls Tryz.prog 144 #[.pointer (some ⟨g, 0, none⟩), y.val e] w (StepPost s (turnS s e.was e.now e.player e.other 1) g base w) := by
  have HS := Lib.hid hs
  have HM := Lib.hid hm
  have HR := Lib.hid hr
  have HF := Lib.hid hf
  have HZ := Lib.hid (may_sz hm)
  have HC := Lib.hid (fun W (hW : Below w.heap.size w W) => turn_any g base x s W (HS.out.below hW) HZ.out e.was e.now e.player e.other 1 HF.out.was HF.out.now (.inl rfl))
  obtain ⟨kind, field, card, player, other, src, srcAt, dst, dstAt, was, now, order⟩ := e
  obtain ⟨oa, oc⟩ := y
  unfold EV.val EV.arr
  simp only at HC hl ⊢
  clear hs hm hr hf
  go_enter Tryz.func144, Tryz.ntmps144
  go_wp2_with fail
  refine (HC.out _ (G.bl_alloc (Below.refl _ _) _)).mono ?_
  rintro en w' hp
  have HP := Lib.hid (hp.lift (Bk.of (G.bl_alloc (Below.refl _ _) _) HS.out.base_le))
  obtain ⟨b, rfl, hb, hc⟩ := hp
  clear hb hc
  go_wp2_with fail
  go_ret
  exact HP.out
set_option maxHeartbeats 2000000 in
theorem back6_any (g base : Nat) (x : SV) (s : St) (w : World) (y : EV) (e : Ev) (hs : StAt w g base x s) (hm : May s) (hr : RdEv w y e) (hf : e.Fits) (hl : e.order.length ≤ 33554432) : Calls Tryz.prog 146 #[.pointer (some ⟨g, 0, none⟩), y.val e] w (StepPost s (if 1 ≤ e.was then turnS s e.now e.was e.other e.player (-1) else none) g base w) := by
  have HS := Lib.hid hs
  have HM := Lib.hid hm
  have HR := Lib.hid hr
  have HF := Lib.hid hf
  have HZ := Lib.hid (may_sz hm)
  have HC := Lib.hid (fun W (hW : Below w.heap.size w W) => turn_any g base x s W (HS.out.below hW) HZ.out e.now e.was e.other e.player (-1) HF.out.now HF.out.was (.inr rfl))
  obtain ⟨kind, field, card, player, other, src, srcAt, dst, dstAt, was, now, order⟩ := e
  obtain ⟨oa, oc⟩ := y
  unfold EV.val EV.arr
  simp only at HC hl ⊢
  clear hs hm hr hf
  by_cases hg : 1 ≤ was
  · rw [if_pos hg]
    go_enter Tryz.func146, Tryz.ntmps146
    go_wp2_with fail
    refine (HC.out _ (G.bl_alloc (Below.refl _ _) _)).mono ?_
    rintro en w' hp
    have HP := Lib.hid (hp.lift (Bk.of (G.bl_alloc (Below.refl _ _) _) HS.out.base_le))
    obtain ⟨b, rfl, hb, hc⟩ := hp
    clear hb hc
    go_wp2_with fail
    go_ret
    exact HP.out
  · rw [if_neg hg]
    go_enter Tryz.func146, Tryz.ntmps146
    go_wp2_with fail
    go_ret
    exact stepP_no rfl (Bk.of (G.bl_alloc (Below.refl _ _) _) HS.out.base_le)
end Go.Proofs.YtmhklnjmeoeanaaGreatDoor.D
namespace Go.Proofs.YtmhklnjmeoeanaaGreatDoor.D
open Go Go.RowKit
set_option linter.unusedVariables false
set_option linter.unusedSimpArgs false
theorem StAt.put2 {w : World} {g base : Nat} {x : SV} {s : St} (h : StAt w g base x s) (a b : Int) : StAt ((w.setCell ⟨g, 5, none⟩ (.int .i8 a)).setCell ⟨g, 6, none⟩ (.int .i64 b)) g base x { s with fin := a, winner := b } :=
  (h.put (i := 5) (t := { s with fin := a }) (u := .int .i8 a) rfl rfl rfl rfl).put (i := 6) (t := { s with fin := a, winner := b }) (u := .int .i64 b) rfl rfl rfl rfl
theorem endS_no {s : St} {now p : Int} (h : ¬ (s.fin = 0 ∧ ((now = 1 ∧ Within p s.players.length) ∨ (now = 2 ∧ p = 0)))) : endS s now p = none := if_neg h
theorem endS_yes {s : St} {now p : Int} (h1 : s.fin = 0) (h : (now = 1 ∧ Within p s.players.length) ∨ (now = 2 ∧ p = 0)) : endS s now p = some { s with fin := now, winner := p } := if_pos ⟨h1, h⟩
theorem endB_no {s : St} {now p : Int} (h : ¬ (s.fin ≠ 0 ∧ s.fin = now ∧ s.winner = p)) : endB s now p = none := if_neg h
theorem endB_yes {s : St} {now p : Int} (h1 : s.fin ≠ 0) (h2 : s.fin = now) (h3 : s.winner = p) : endB s now p = some { s with fin := 0, winner := 0 } := if_pos ⟨h1, h2, h3⟩
set_option maxRecDepth 100000 in
set_option maxHeartbeats 4000000 in
theorem do7_any (g base : Nat) (x : SV) (s : St) (w : World) (y : EV) (e : Ev) (hs : StAt w g base x s) (hm : May s) (hf : e.Fits) : Calls Tryz.prog 149 #[.pointer (some ⟨g, 0, none⟩), y.val e] w (StepPost s (endS s e.now e.player) g base w) := by
  have HS := Lib.hid hs
  have hnp := hm.n4
  obtain ⟨c0, c1, c2, c3, c4, c5, c6⟩ := hs.cells
  have r5 := hs.blk.frozen 5
  have r6 := hs.blk.frozen 6
  have hlt := hs.blk.lt
  have hf1 := hm.fin
  obtain ⟨kind, field, card, player, other, src, srcAt, dst, dstAt, was, now, order⟩ := e
  obtain ⟨oa, oc⟩ := y
  unfold EV.val EV.arr
  simp only
  obtain ⟨n, hn⟩ : ∃ n, n = s.players.length := ⟨_, rfl⟩
  rw [← hn] at hnp c0
  have HN := Lib.hid hn
  obtain ⟨fin, hfin⟩ : ∃ f, f = s.fin := ⟨_, rfl⟩
  obtain ⟨win, hwin⟩ : ∃ f, f = s.winner := ⟨_, rfl⟩
  rw [← hfin] at c5 hf1
  rw [← hwin] at c6
  have HFI := Lib.hid hfin
  have HWI := Lib.hid hwin
  obtain ⟨q0, q1⟩ := hf1
  clear hs hm hf hn hfin hwin c1 c2 c3 c4
  by_cases n1 : now = 1
  · subst n1
    by_cases p0 : 0 ≤ player
    · by_cases pn : player < n
      · by_cases f0 : fin = 0
        · have f0b : (fin != 0) = false := by rw [f0]; rfl
          have HO := Lib.hid (endS_yes (s := s) (now := 1) (p := player) (by rw [← HFI.out]; exact f0) (.inl ⟨rfl, p0, by rw [← HN.out]; exact pn⟩))
          clear f0
          go_enter Tryz.func149, Tryz.ntmps149
          go_wp2_with fail
          go_quiet (fail)
          go_wp2_with fail
          go_region
          all_goals
            go_wp2_with fail
            go_ret
            exact stepP_yes HO.out (StAt.put2 (HS.out.below (G.bl_drewN (G.bl_alloc (Below.refl _ _) _) _)) 1 player) ((Bk.of (G.bl_drewN (G.bl_alloc (Below.refl _ _) _) _) HS.out.base_le).trans (bk_put2 (HS.out.below (G.bl_drewN (G.bl_alloc (Below.refl _ _) _) _))))
        · have f0b : (fin != 0) = true := by rw [bne_iff_ne]; exact f0
          have HO := Lib.hid (endS_no (s := s) (now := 1) (p := player) (fun h => f0 (by rw [HFI.out]; exact h.1)))
          go_enter Tryz.func149, Tryz.ntmps149
          go_wp2_with fail
          go_quiet (fail)
          go_wp2_with fail
          go_ret
          exact stepP_no HO.out (Bk.of (G.bl_drewN (G.bl_alloc (Below.refl _ _) _) _) HS.out.base_le)
      · have pnd : decide (player < (n : Int)) = false := by simpa using pn
        by_cases f0 : fin = 0
        · have f0b : (fin != 0) = false := by rw [f0]; rfl
          have HF0 := Lib.hid f0
          clear f0
          have HO := Lib.hid (endS_no (s := s) (now := 1) (p := player) (fun h => h.2.elim (fun k => pn (by have := k.2.2; rw [← HN.out] at this; exact this)) (fun k => by have := k.1; omega)))
          go_enter Tryz.func149, Tryz.ntmps149
          go_wp2_with fail
          go_quiet (fail)
          go_wp2_with fail
          go_ret
          exact stepP_no HO.out (Bk.of (G.bl_drewN (G.bl_alloc (Below.refl _ _) _) _) HS.out.base_le)
        · have f0b : (fin != 0) = true := by rw [bne_iff_ne]; exact f0
          have HO := Lib.hid (endS_no (s := s) (now := 1) (p := player) (fun h => f0 (by rw [HFI.out]; exact h.1)))
          go_enter Tryz.func149, Tryz.ntmps149
          go_wp2_with fail
          go_quiet (fail)
          go_wp2_with fail
          go_ret
          exact stepP_no HO.out (Bk.of (G.bl_drewN (G.bl_alloc (Below.refl _ _) _) _) HS.out.base_le)
    · have p0d : decide (0 ≤ player) = false := by simpa using p0
      by_cases f0 : fin = 0
      · have f0b : (fin != 0) = false := by rw [f0]; rfl
        have HF0 := Lib.hid f0
        clear f0
        have HO := Lib.hid (endS_no (s := s) (now := 1) (p := player) (fun h => h.2.elim (fun k => p0 k.2.1) (fun k => by have := k.1; omega)))
        go_enter Tryz.func149, Tryz.ntmps149
        go_wp2_with fail
        go_quiet (fail)
        go_wp2_with fail
        go_ret
        exact stepP_no HO.out (Bk.of (G.bl_drewN (G.bl_alloc (Below.refl _ _) _) _) HS.out.base_le)
      · have f0b : (fin != 0) = true := by rw [bne_iff_ne]; exact f0
        have HO := Lib.hid (endS_no (s := s) (now := 1) (p := player) (fun h => f0 (by rw [HFI.out]; exact h.1)))
        go_enter Tryz.func149, Tryz.ntmps149
        go_wp2_with fail
        go_quiet (fail)
        go_wp2_with fail
        go_ret
        exact stepP_no HO.out (Bk.of (G.bl_drewN (G.bl_alloc (Below.refl _ _) _) _) HS.out.base_le)
  · have n1b : (now == 1) = false := by rw [beq_eq_false_iff_ne]; exact n1
    by_cases f0 : fin = 0
    · have f0b : (fin != 0) = false := by rw [f0]; rfl
      have HF0 := Lib.hid f0
      clear f0
      by_cases n2 : now = 2
      · subst n2
        by_cases p0 : player = 0
        · subst p0
          have HO := Lib.hid (endS_yes (s := s) (now := 2) (p := 0) (by rw [← HFI.out]; exact HF0.out) (.inr ⟨rfl, rfl⟩))
          go_enter Tryz.func149, Tryz.ntmps149
          go_wp2_with fail
          go_quiet (fail)
          go_wp2_with fail
          go_region
          all_goals
            go_wp2_with fail
            go_ret
            exact stepP_yes HO.out (StAt.put2 (HS.out.below (G.bl_drewN (G.bl_alloc (Below.refl _ _) _) _)) 2 0) ((Bk.of (G.bl_drewN (G.bl_alloc (Below.refl _ _) _) _) HS.out.base_le).trans (bk_put2 (HS.out.below (G.bl_drewN (G.bl_alloc (Below.refl _ _) _) _))))
        · have p0b : (player != 0) = true := by rw [bne_iff_ne]; exact p0
          have HO := Lib.hid (endS_no (s := s) (now := 2) (p := player) (fun h => h.2.elim (fun k => by have := k.1; omega) (fun k => p0 k.2)))
          go_enter Tryz.func149, Tryz.ntmps149
          go_wp2_with fail
          go_quiet (fail)
          go_wp2_with fail
          go_ret
          exact stepP_no HO.out (Bk.of (G.bl_drewN (G.bl_alloc (Below.refl _ _) _) _) HS.out.base_le)
      · have n2b : (now != 2) = true := by rw [bne_iff_ne]; exact n2
        have HO := Lib.hid (endS_no (s := s) (now := now) (p := player) (fun h => h.2.elim (fun k => n1 k.1) (fun k => n2 k.1)))
        go_enter Tryz.func149, Tryz.ntmps149
        go_wp2_with fail
        go_quiet (fail)
        go_wp2_with fail
        go_ret
        exact stepP_no HO.out (Bk.of (G.bl_drewN (G.bl_alloc (Below.refl _ _) _) _) HS.out.base_le)
    · have f0b : (fin != 0) = true := by rw [bne_iff_ne]; exact f0
      have HO := Lib.hid (endS_no (s := s) (now := now) (p := player) (fun h => f0 (by rw [HFI.out]; exact h.1)))
      go_enter Tryz.func149, Tryz.ntmps149
      go_wp2_with fail
      go_quiet (fail)
      go_wp2_with fail
      go_ret
      exact stepP_no HO.out (Bk.of (G.bl_drewN (G.bl_alloc (Below.refl _ _) _) _) HS.out.base_le)
set_option maxRecDepth 100000 in
set_option maxHeartbeats 4000000 in
theorem back7_any (g base : Nat) (x : SV) (s : St) (w : World) (y : EV) (e : Ev) (hs : StAt w g base x s) (hm : May s) (hf : e.Fits) : Calls Tryz.prog 150 #[.pointer (some ⟨g, 0, none⟩), y.val e] w (StepPost s (endB s e.now e.player) g base w) := by
  have HS := Lib.hid hs
  have hnp := hm.n4
  obtain ⟨c0, c1, c2, c3, c4, c5, c6⟩ := hs.cells
  have r5 := hs.blk.frozen 5
  have r6 := hs.blk.frozen 6
  have hlt := hs.blk.lt
  have hf1 := hm.fin
  obtain ⟨kind, field, card, player, other, src, srcAt, dst, dstAt, was, now, order⟩ := e
  obtain ⟨oa, oc⟩ := y
  unfold EV.val EV.arr
  simp only
  obtain ⟨n, hn⟩ : ∃ n, n = s.players.length := ⟨_, rfl⟩
  rw [← hn] at hnp c0
  have HN := Lib.hid hn
  obtain ⟨fin, hfin⟩ : ∃ f, f = s.fin := ⟨_, rfl⟩
  obtain ⟨win, hwin⟩ : ∃ f, f = s.winner := ⟨_, rfl⟩
  rw [← hfin] at c5 hf1
  rw [← hwin] at c6
  have HFI := Lib.hid hfin
  have HWI := Lib.hid hwin
  obtain ⟨q0, q1⟩ := hf1
  clear hs hm hf hn hfin hwin c1 c2 c3 c4
  by_cases f0 : fin = 0
  · have f0b : (fin == 0) = true := by rw [f0]; rfl
    have HO := Lib.hid (endB_no (s := s) (now := now) (p := player) (fun h => h.1 (by rw [← HFI.out]; exact f0)))
    go_enter Tryz.func150, Tryz.ntmps150
    go_wp2_with fail
    go_quiet (fail)
    go_wp2_with fail
    go_ret
    exact stepP_no HO.out (Bk.of (G.bl_drewN (G.bl_alloc (Below.refl _ _) _) _) HS.out.base_le)
  · have f0b : (fin == 0) = false := by rw [beq_eq_false_iff_ne]; exact f0
    by_cases f1 : fin = now
    · have f1b : (fin != now) = false := by rw [f1]; simp
      have HF1 := Lib.hid f1
      clear f1
      by_cases p0 : win = player
      · have p0b : (win != player) = false := by rw [p0]; simp
        have HP0 := Lib.hid p0
        clear p0
        have HO := Lib.hid (endB_yes (s := s) (now := now) (p := player) (by rw [← HFI.out]; exact f0) (by rw [← HFI.out]; exact HF1.out) (by rw [← HWI.out]; exact HP0.out))
        go_enter Tryz.func150, Tryz.ntmps150
        go_wp2_with fail
        go_quiet (fail)
        go_wp2_with fail
        go_ret
        exact stepP_yes HO.out (StAt.put2 (HS.out.below (G.bl_drewN (G.bl_alloc (Below.refl _ _) _) _)) 0 0) ((Bk.of (G.bl_drewN (G.bl_alloc (Below.refl _ _) _) _) HS.out.base_le).trans (bk_put2 (HS.out.below (G.bl_drewN (G.bl_alloc (Below.refl _ _) _) _))))
      · have p0b : (win != player) = true := by rw [bne_iff_ne]; exact p0
        have HO := Lib.hid (endB_no (s := s) (now := now) (p := player) (fun h => p0 (by rw [HWI.out]; exact h.2.2)))
        go_enter Tryz.func150, Tryz.ntmps150
        go_wp2_with fail
        go_quiet (fail)
        go_wp2_with fail
        go_ret
        exact stepP_no HO.out (Bk.of (G.bl_drewN (G.bl_alloc (Below.refl _ _) _) _) HS.out.base_le)
    · have f1b : (fin != now) = true := by rw [bne_iff_ne]; exact f1
      have HO := Lib.hid (endB_no (s := s) (now := now) (p := player) (fun h => f1 (by rw [HFI.out]; exact h.2.1)))
      go_enter Tryz.func150, Tryz.ntmps150
      go_wp2_with fail
      go_quiet (fail)
      go_wp2_with fail
      go_ret
      exact stepP_no HO.out (Bk.of (G.bl_drewN (G.bl_alloc (Below.refl _ _) _) _) HS.out.base_le)
end Go.Proofs.YtmhklnjmeoeanaaGreatDoor.D

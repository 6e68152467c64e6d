/- The contracts of the closures of deed.things and deed.games that do an event and take it back. Printed by gen_clo.py. -/
import Derived.Test.YtofgmijmhpmabaaGreatDoorDMoveA
import Derived.Test.YtofgmijmhpmabaaGreatDoorDMoveB
import Derived.Test.YtofgmijmhpmabaaGreatDoorDField
import Derived.Test.YtofgmijmhpmabaaGreatDoorDShuf
namespace Go.Proofs.YtofgmijmhpmabaaGreatDoor.D
open Go Go.RowKit
set_option linter.unusedVariables false
set_option linter.unusedSimpArgs false
set_option maxRecDepth 100000 in
set_option maxHeartbeats 8000000 in
theorem move_any (g base : Nat) (x : SV) (s : St) (w : World) (hs : StAt w g base x s) (hz : Sz s) (card src srcAt dst dstAt : Int) :
    Calls Tryz.prog 160 #[.pointer (some ⟨g, 0, none⟩), .int .i64 card, .int .i64 src, .int .i64 srcAt, .int .i64 dst, .int .i64 dstAt] w (StepPost s (moveS s card src srcAt dst dstAt) g base w) := by
  have HS := Lib.hid hs
  have HZ := Lib.hid hz
  have hnz := hz.z
  obtain ⟨c0, c1, c2, c3, c4, c5, c6⟩ := hs.cells
  have hlt := hs.blk.lt
  obtain ⟨n, hn⟩ : ∃ n, n = s.zones.length := ⟨_, rfl⟩
  rw [← hn] at hnz c2
  have HN := Lib.hid hn
  clear hs hz hn c0 c1 c3 c4 c5 c6
  by_cases h1 : 0 ≤ src
  · by_cases h2 : src < n
    · by_cases h3 : 0 ≤ dst
      · by_cases h4 : dst < n
        · by_cases h5 : src = dst ∧ srcAt = dstAt
          · have hb1 : (src == dst) = true := by rw [h5.1]; simp
            have hb2 : (srcAt == dstAt) = true := by rw [h5.2]; simp
            have HO := Lib.hid (moveS_no (s := s) (fun h => h.2.2.1 h5 : ¬ MoveOk s card src srcAt dst dstAt))
            clear h5
            go_enter Tryz.func160, Tryz.ntmps160
            go_wp2_with fail
            go_ret
            exact stepP_no HO.out (Bk.refl _ _)
          · by_cases e : src = dst
            · exact move_eq g base x s w HS.out HZ.out card src srcAt dst dstAt h1 (by rw [← HN.out]; exact h2) h3 (by rw [← HN.out]; exact h4) h5 ⟨by rw [e]; simp, by rw [beq_eq_false_iff_ne]; exact fun e2 => h5 ⟨e, e2⟩⟩
            · exact move_ne g base x s w HS.out HZ.out card src srcAt dst dstAt h1 (by rw [← HN.out]; exact h2) h3 (by rw [← HN.out]; exact h4) h5 (by rw [beq_eq_false_iff_ne]; exact e)
        · have HO := Lib.hid (moveS_no (s := s) (fun h => h4 (by have := h.2.1.2; rw [← HN.out] at this; exact this) : ¬ MoveOk s card src srcAt dst dstAt))
          go_enter Tryz.func160, Tryz.ntmps160
          go_wp2_with fail
          go_ret
          exact stepP_no HO.out (Bk.refl _ _)
      · have HO := Lib.hid (moveS_no (s := s) (fun h => h3 h.2.1.1 : ¬ MoveOk s card src srcAt dst dstAt))
        go_enter Tryz.func160, Tryz.ntmps160
        go_wp2_with fail
        go_ret
        exact stepP_no HO.out (Bk.refl _ _)
    · have HO := Lib.hid (moveS_no (s := s) (fun h => h2 (by have := h.1.2; rw [← HN.out] at this; exact this) : ¬ MoveOk s card src srcAt dst dstAt))
      go_enter Tryz.func160, Tryz.ntmps160
      go_wp2_with fail
      go_ret
      exact stepP_no HO.out (Bk.refl _ _)
  · have HO := Lib.hid (moveS_no (s := s) (fun h => h1 h.1.1 : ¬ MoveOk s card src srcAt dst dstAt))
    go_enter Tryz.func160, Tryz.ntmps160
    go_wp2_with fail
    go_ret
    exact stepP_no HO.out (Bk.refl _ _)
end Go.Proofs.YtofgmijmhpmabaaGreatDoor.D
namespace Go.Proofs.YtofgmijmhpmabaaGreatDoor.D
open Go Go.RowKit
set_option linter.unusedVariables false
set_option linter.unusedSimpArgs false
theorem StepPost.lift {s : St} {o : Option St} {g base : Nat} {w w1 : World} {e : Ending} {w' : World} (h : StepPost s o g base w1 e w') (hb : Bk base w w1) : StepPost s o g base w e w' := by
  obtain ⟨b, he, hb2, hc⟩ := h
  exact ⟨b, he, hb.trans hb2, hc⟩
theorem StAt.base_le {w : World} {g base : Nat} {x : SV} {s : St} (h : StAt w g base x s) : base ≤ w.heap.size := by
  have h8 := h.ge
  have h9 := h.blk.lt
  omega
theorem may_sz {s : St} (h : May s) : Sz s := ⟨by have := h.n4; omega, by have := h.m256; omega, by have := h.zn; have := h.n4; omega, fun i => by have := may_zone h i; omega⟩
set_option maxHeartbeats 2000000 in
theorem do1_any (g base : Nat) (x : SV) (s : St) (w : World) (y : EV) (e : Ev) (hs : StAt w g base x s) (hm : May s) (hr : RdEv w y e) (hf : e.Fits) (hl : e.order.length ≤ 33554432) : Calls Tryz.prog 159 #[.pointer (some ⟨g, 0, none⟩), y.val e] w (StepPost s (moveS s e.card e.src e.srcAt e.dst e.dstAt) g base w) := by
  have HS := Lib.hid hs
  have HM := Lib.hid hm
  have HR := Lib.hid hr
  have HF := Lib.hid hf
  have HZ := Lib.hid (may_sz hm)
  have HC := Lib.hid (fun W (hW : Below w.heap.size w W) => move_any g base x s W (HS.out.below hW) HZ.out e.card e.src e.srcAt e.dst e.dstAt)
  obtain ⟨kind, field, card, player, other, src, srcAt, dst, dstAt, was, now, order⟩ := e
  obtain ⟨oa, oc⟩ := y
  unfold EV.val EV.arr
  simp only at HC hl ⊢
  clear hs hm hr hf
  go_enter Tryz.func159, Tryz.ntmps159
  go_wp2_with fail
  refine (HC.out _ (G.bl_alloc (Below.refl _ _) _)).mono ?_
  rintro en w' hp
  have HP := Lib.hid (hp.lift (Bk.of (G.bl_alloc (Below.refl _ _) _) HS.out.base_le))
  obtain ⟨b, rfl, hb, hc⟩ := hp
  clear hb hc
  go_wp2_with fail
  go_ret
  exact HP.out
set_option maxHeartbeats 2000000 in
theorem back1_any (g base : Nat) (x : SV) (s : St) (w : World) (y : EV) (e : Ev) (hs : StAt w g base x s) (hm : May s) (hr : RdEv w y e) (hf : e.Fits) (hl : e.order.length ≤ 33554432) : Calls Tryz.prog 161 #[.pointer (some ⟨g, 0, none⟩), y.val e] w (StepPost s (moveS s e.card e.dst e.dstAt e.src e.srcAt) g base w) := by
  have HS := Lib.hid hs
  have HM := Lib.hid hm
  have HR := Lib.hid hr
  have HF := Lib.hid hf
  have HZ := Lib.hid (may_sz hm)
  have HC := Lib.hid (fun W (hW : Below w.heap.size w W) => move_any g base x s W (HS.out.below hW) HZ.out e.card e.dst e.dstAt e.src e.srcAt)
  obtain ⟨kind, field, card, player, other, src, srcAt, dst, dstAt, was, now, order⟩ := e
  obtain ⟨oa, oc⟩ := y
  unfold EV.val EV.arr
  simp only at HC hl ⊢
  clear hs hm hr hf
  go_enter Tryz.func161, Tryz.ntmps161
  go_wp2_with fail
  refine (HC.out _ (G.bl_alloc (Below.refl _ _) _)).mono ?_
  rintro en w' hp
  have HP := Lib.hid (hp.lift (Bk.of (G.bl_alloc (Below.refl _ _) _) HS.out.base_le))
  obtain ⟨b, rfl, hb, hc⟩ := hp
  clear hb hc
  go_wp2_with fail
  go_ret
  exact HP.out
set_option maxHeartbeats 2000000 in
theorem do2_any (g base : Nat) (x : SV) (s : St) (w : World) (y : EV) (e : Ev) (hs : StAt w g base x s) (hm : May s) (hr : RdEv w y e) (hf : e.Fits) (hl : e.order.length ≤ 33554432) : Calls Tryz.prog 164 #[.pointer (some ⟨g, 0, none⟩), y.val e] w (StepPost s (if e.field ≤ 4 then changeS s e.field e.card e.was e.now else none) g base w) := by
  have HS := Lib.hid hs
  have HM := Lib.hid hm
  have HR := Lib.hid hr
  have HF := Lib.hid hf
  have HZ := Lib.hid (may_sz hm)
  have HC := Lib.hid (fun W (hW : Below w.heap.size w W) => change_any g base x s W (HS.out.below hW) HZ.out e.field e.card e.was e.now HF.out.field)
  obtain ⟨kind, field, card, player, other, src, srcAt, dst, dstAt, was, now, order⟩ := e
  obtain ⟨oa, oc⟩ := y
  unfold EV.val EV.arr
  simp only at HC hl ⊢
  clear hs hm hr hf
  by_cases hg : field ≤ 4
  · rw [if_pos hg]
    go_enter Tryz.func164, Tryz.ntmps164
    go_wp2_with fail
    refine (HC.out _ (G.bl_alloc (Below.refl _ _) _)).mono ?_
    rintro en w' hp
    have HP := Lib.hid (hp.lift (Bk.of (G.bl_alloc (Below.refl _ _) _) HS.out.base_le))
    obtain ⟨b, rfl, hb, hc⟩ := hp
    clear hb hc
    go_wp2_with fail
    go_ret
    exact HP.out
  · rw [if_neg hg]
    go_enter Tryz.func164, Tryz.ntmps164
    go_wp2_with fail
    go_ret
    exact stepP_no rfl (Bk.of (G.bl_alloc (Below.refl _ _) _) HS.out.base_le)
set_option maxHeartbeats 2000000 in
theorem back2_any (g base : Nat) (x : SV) (s : St) (w : World) (y : EV) (e : Ev) (hs : StAt w g base x s) (hm : May s) (hr : RdEv w y e) (hf : e.Fits) (hl : e.order.length ≤ 33554432) : Calls Tryz.prog 166 #[.pointer (some ⟨g, 0, none⟩), y.val e] w (StepPost s (if e.field ≤ 4 then changeS s e.field e.card e.now e.was else none) g base w) := by
  have HS := Lib.hid hs
  have HM := Lib.hid hm
  have HR := Lib.hid hr
  have HF := Lib.hid hf
  have HZ := Lib.hid (may_sz hm)
  have HC := Lib.hid (fun W (hW : Below w.heap.size w W) => change_any g base x s W (HS.out.below hW) HZ.out e.field e.card e.now e.was HF.out.field)
  obtain ⟨kind, field, card, player, other, src, srcAt, dst, dstAt, was, now, order⟩ := e
  obtain ⟨oa, oc⟩ := y
  unfold EV.val EV.arr
  simp only at HC hl ⊢
  clear hs hm hr hf
  by_cases hg : field ≤ 4
  · rw [if_pos hg]
    go_enter Tryz.func166, Tryz.ntmps166
    go_wp2_with fail
    refine (HC.out _ (G.bl_alloc (Below.refl _ _) _)).mono ?_
    rintro en w' hp
    have HP := Lib.hid (hp.lift (Bk.of (G.bl_alloc (Below.refl _ _) _) HS.out.base_le))
    obtain ⟨b, rfl, hb, hc⟩ := hp
    clear hb hc
    go_wp2_with fail
    go_ret
    exact HP.out
  · rw [if_neg hg]
    go_enter Tryz.func166, Tryz.ntmps166
    go_wp2_with fail
    go_ret
    exact stepP_no rfl (Bk.of (G.bl_alloc (Below.refl _ _) _) HS.out.base_le)
set_option maxHeartbeats 2000000 in
theorem do3_any (g base : Nat) (x : SV) (s : St) (w : World) (y : EV) (e : Ev) (hs : StAt w g base x s) (hm : May s) (hr : RdEv w y e) (hf : e.Fits) (hl : e.order.length ≤ 33554432) : Calls Tryz.prog 170 #[.pointer (some ⟨g, 0, none⟩), y.val e] w (StepPost s (if 5 ≤ e.field then changeS s e.field e.player e.was e.now else none) g base w) := by
  have HS := Lib.hid hs
  have HM := Lib.hid hm
  have HR := Lib.hid hr
  have HF := Lib.hid hf
  have HZ := Lib.hid (may_sz hm)
  have HC := Lib.hid (fun W (hW : Below w.heap.size w W) => change_any g base x s W (HS.out.below hW) HZ.out e.field e.player e.was e.now HF.out.field)
  obtain ⟨kind, field, card, player, other, src, srcAt, dst, dstAt, was, now, order⟩ := e
  obtain ⟨oa, oc⟩ := y
  unfold EV.val EV.arr
  simp only at HC hl ⊢
  clear hs hm hr hf
  by_cases hg : 5 ≤ field
  · rw [if_pos hg]
    go_enter Tryz.func170, Tryz.ntmps170
    go_wp2_with fail
    refine (HC.out _ (G.bl_alloc (Below.refl _ _) _)).mono ?_
    rintro en w' hp
    have HP := Lib.hid (hp.lift (Bk.of (G.bl_alloc (Below.refl _ _) _) HS.out.base_le))
    obtain ⟨b, rfl, hb, hc⟩ := hp
    clear hb hc
    go_wp2_with fail
    go_ret
    exact HP.out
  · rw [if_neg hg]
    go_enter Tryz.func170, Tryz.ntmps170
    go_wp2_with fail
    go_ret
    exact stepP_no rfl (Bk.of (G.bl_alloc (Below.refl _ _) _) HS.out.base_le)
set_option maxHeartbeats 2000000 in
theorem back3_any (g base : Nat) (x : SV) (s : St) (w : World) (y : EV) (e : Ev) (hs : StAt w g base x s) (hm : May s) (hr : RdEv w y e) (hf : e.Fits) (hl : e.order.length ≤ 33554432) : Calls Tryz.prog 171 #[.pointer (some ⟨g, 0, none⟩), y.val e] w (StepPost s (if 5 ≤ e.field then changeS s e.field e.player e.now e.was else none) g base w) := by
  have HS := Lib.hid hs
  have HM := Lib.hid hm
  have HR := Lib.hid hr
  have HF := Lib.hid hf
  have HZ := Lib.hid (may_sz hm)
  have HC := Lib.hid (fun W (hW : Below w.heap.size w W) => change_any g base x s W (HS.out.below hW) HZ.out e.field e.player e.now e.was HF.out.field)
  obtain ⟨kind, field, card, player, other, src, srcAt, dst, dstAt, was, now, order⟩ := e
  obtain ⟨oa, oc⟩ := y
  unfold EV.val EV.arr
  simp only at HC hl ⊢
  clear hs hm hr hf
  by_cases hg : 5 ≤ field
  · rw [if_pos hg]
    go_enter Tryz.func171, Tryz.ntmps171
    go_wp2_with fail
    refine (HC.out _ (G.bl_alloc (Below.refl _ _) _)).mono ?_
    rintro en w' hp
    have HP := Lib.hid (hp.lift (Bk.of (G.bl_alloc (Below.refl _ _) _) HS.out.base_le))
    obtain ⟨b, rfl, hb, hc⟩ := hp
    clear hb hc
    go_wp2_with fail
    go_ret
    exact HP.out
  · rw [if_neg hg]
    go_enter Tryz.func171, Tryz.ntmps171
    go_wp2_with fail
    go_ret
    exact stepP_no rfl (Bk.of (G.bl_alloc (Below.refl _ _) _) HS.out.base_le)
set_option maxHeartbeats 2000000 in
theorem do4_any (g base : Nat) (x : SV) (s : St) (w : World) (y : EV) (e : Ev) (hs : StAt w g base x s) (hm : May s) (hr : RdEv w y e) (hf : e.Fits) (hl : e.order.length ≤ 33554432) : Calls Tryz.prog 174 #[.pointer (some ⟨g, 0, none⟩), y.val e] w (StepPost s (shuffleS s e.src e.order false) g base w) := by
  have HS := Lib.hid hs
  have HM := Lib.hid hm
  have HR := Lib.hid hr
  have HF := Lib.hid hf
  have HZ := Lib.hid (may_sz hm)
  have HC := Lib.hid (fun W (hW : Below w.heap.size w W) => shuffle_any g base x s W (HS.out.below hW) HM.out e.src y.oa y.oc e.order false (HR.out.below hW) hl)
  obtain ⟨kind, field, card, player, other, src, srcAt, dst, dstAt, was, now, order⟩ := e
  obtain ⟨oa, oc⟩ := y
  unfold EV.val EV.arr
  simp only at HC hl ⊢
  clear hs hm hr hf
  go_enter Tryz.func174, Tryz.ntmps174
  go_wp2_with fail
  refine (HC.out _ (G.bl_alloc (Below.refl _ _) _)).mono ?_
  rintro en w' hp
  have HP := Lib.hid (hp.lift (Bk.of (G.bl_alloc (Below.refl _ _) _) HS.out.base_le))
  obtain ⟨b, rfl, hb, hc⟩ := hp
  clear hb hc
  go_wp2_with fail
  go_ret
  exact HP.out
set_option maxHeartbeats 2000000 in
theorem back4_any (g base : Nat) (x : SV) (s : St) (w : World) (y : EV) (e : Ev) (hs : StAt w g base x s) (hm : May s) (hr : RdEv w y e) (hf : e.Fits) (hl : e.order.length ≤ 33554432) : Calls Tryz.prog 176 #[.pointer (some ⟨g, 0, none⟩), y.val e] w (StepPost s (shuffleS s e.src e.order true) g base w) := by
  have HS := Lib.hid hs
  have HM := Lib.hid hm
  have HR := Lib.hid hr
  have HF := Lib.hid hf
  have HZ := Lib.hid (may_sz hm)
  have HC := Lib.hid (fun W (hW : Below w.heap.size w W) => shuffle_any g base x s W (HS.out.below hW) HM.out e.src y.oa y.oc e.order true (HR.out.below hW) hl)
  obtain ⟨kind, field, card, player, other, src, srcAt, dst, dstAt, was, now, order⟩ := e
  obtain ⟨oa, oc⟩ := y
  unfold EV.val EV.arr
  simp only at HC hl ⊢
  clear hs hm hr hf
  go_enter Tryz.func176, Tryz.ntmps176
  go_wp2_with fail
  refine (HC.out _ (G.bl_alloc (Below.refl _ _) _)).mono ?_
  rintro en w' hp
  have HP := Lib.hid (hp.lift (Bk.of (G.bl_alloc (Below.refl _ _) _) HS.out.base_le))
  obtain ⟨b, rfl, hb, hc⟩ := hp
  clear hb hc
  go_wp2_with fail
  go_ret
  exact HP.out
set_option maxHeartbeats 2000000 in
theorem do5_any (g base : Nat) (x : SV) (s : St) (w : World) (y : EV) (e : Ev) (hs : StAt w g base x s) (hm : May s) (hr : RdEv w y e) (hf : e.Fits) (hl : e.order.length ≤ 33554432) : Calls Tryz.prog 179 #[.pointer (some ⟨g, 0, none⟩), y.val e] w (StepPost s (outS s e.player true) g base w) := by
  have HS := Lib.hid hs
  have HM := Lib.hid hm
  have HR := Lib.hid hr
  have HF := Lib.hid hf
  have HZ := Lib.hid (may_sz hm)
  have HC := Lib.hid (fun W (hW : Below w.heap.size w W) => out_any g base x s W (HS.out.below hW) HZ.out e.player true)
  obtain ⟨kind, field, card, player, other, src, srcAt, dst, dstAt, was, now, order⟩ := e
  obtain ⟨oa, oc⟩ := y
  unfold EV.val EV.arr
  simp only at HC hl ⊢
  clear hs hm hr hf
  go_enter Tryz.func179, Tryz.ntmps179
  go_wp2_with fail
  refine (HC.out _ (G.bl_alloc (Below.refl _ _) _)).mono ?_
  rintro en w' hp
  have HP := Lib.hid (hp.lift (Bk.of (G.bl_alloc (Below.refl _ _) _) HS.out.base_le))
  obtain ⟨b, rfl, hb, hc⟩ := hp
  clear hb hc
  go_wp2_with fail
  go_ret
  exact HP.out
set_option maxHeartbeats 2000000 in
theorem back5_any (g base : Nat) (x : SV) (s : St) (w : World) (y : EV) (e : Ev) (hs : StAt w g base x s) (hm : May s) (hr : RdEv w y e) (hf : e.Fits) (hl : e.order.length ≤ 33554432) : Calls Tryz.prog 181 #[.pointer (some ⟨g, 0, none⟩), y.val e] w (StepPost s (outS s e.player false) g base w) := by
  have HS := Lib.hid hs
  have HM := Lib.hid hm
  have HR := Lib.hid hr
  have HF := Lib.hid hf
  have HZ := Lib.hid (may_sz hm)
  have HC := Lib.hid (fun W (hW : Below w.heap.size w W) => out_any g base x s W (HS.out.below hW) HZ.out e.player false)
  obtain ⟨kind, field, card, player, other, src, srcAt, dst, dstAt, was, now, order⟩ := e
  obtain ⟨oa, oc⟩ := y
  unfold EV.val EV.arr
  simp only at HC hl ⊢
  clear hs hm hr hf
  go_enter Tryz.func181, Tryz.ntmps181
  go_wp2_with fail
  refine (HC.out _ (G.bl_alloc (Below.refl _ _) _)).mono ?_
  rintro en w' hp
  have HP := Lib.hid (hp.lift (Bk.of (G.bl_alloc (Below.refl _ _) _) HS.out.base_le))
  obtain ⟨b, rfl, hb, hc⟩ := hp
  clear hb hc
  go_wp2_with fail
  go_ret
  exact HP.out
set_option maxHeartbeats 2000000 in
theorem do6_any (g base : Nat) (x : SV) (s : St) (w : World) (y : EV) (e : Ev) (hs : StAt w g base x s) (hm : May s) (hr : RdEv w y e) (hf : e.Fits) (hl : e.order.length ≤ 33554432) : Calls Tryz.prog 184 #[.pointer (some ⟨g, 0, none⟩), y.val e] w (StepPost s (turnS s e.was e.now e.player e.other 1) g base w) := by
  have HS := Lib.hid hs
  have HM := Lib.hid hm
  have HR := Lib.hid hr
  have HF := Lib.hid hf
  have HZ := Lib.hid (may_sz hm)
  have HC := Lib.hid (fun W (hW : Below w.heap.size w W) => turn_any g base x s W (HS.out.below hW) HZ.out e.was e.now e.player e.other 1 HF.out.was HF.out.now (.inl rfl))
  obtain ⟨kind, field, card, player, other, src, srcAt, dst, dstAt, was, now, order⟩ := e
  obtain ⟨oa, oc⟩ := y
  unfold EV.val EV.arr
  simp only at HC hl ⊢
  clear hs hm hr hf
  go_enter Tryz.func184, Tryz.ntmps184
  go_wp2_with fail
  refine (HC.out _ (G.bl_alloc (Below.refl _ _) _)).mono ?_
  rintro en w' hp
  have HP := Lib.hid (hp.lift (Bk.of (G.bl_alloc (Below.refl _ _) _) HS.out.base_le))
  obtain ⟨b, rfl, hb, hc⟩ := hp
  clear hb hc
  go_wp2_with fail
  go_ret
  exact HP.out
set_option maxHeartbeats 2000000 in
theorem back6_any (g base : Nat) (x : SV) (s : St) (w : World) (y : EV) (e : Ev) (hs : StAt w g base x s) (hm : May s) (hr : RdEv w y e) (hf : e.Fits) (hl : e.order.length ≤ 33554432) : Calls Tryz.prog 186 #[.pointer (some ⟨g, 0, none⟩), y.val e] w (StepPost s (if 1 ≤ e.was then turnS s e.now e.was e.other e.player (-1) else none) g base w) := by
  have HS := Lib.hid hs
  have HM := Lib.hid hm
  have HR := Lib.hid hr
  have HF := Lib.hid hf
  have HZ := Lib.hid (may_sz hm)
  have HC := Lib.hid (fun W (hW : Below w.heap.size w W) => turn_any g base x s W (HS.out.below hW) HZ.out e.now e.was e.other e.player (-1) HF.out.now HF.out.was (.inr rfl))
  obtain ⟨kind, field, card, player, other, src, srcAt, dst, dstAt, was, now, order⟩ := e
  obtain ⟨oa, oc⟩ := y
  unfold EV.val EV.arr
  simp only at HC hl ⊢
  clear hs hm hr hf
  by_cases hg : 1 ≤ was
  · rw [if_pos hg]
    go_enter Tryz.func186, Tryz.ntmps186
    go_wp2_with fail
    refine (HC.out _ (G.bl_alloc (Below.refl _ _) _)).mono ?_
    rintro en w' hp
    have HP := Lib.hid (hp.lift (Bk.of (G.bl_alloc (Below.refl _ _) _) HS.out.base_le))
    obtain ⟨b, rfl, hb, hc⟩ := hp
    clear hb hc
    go_wp2_with fail
    go_ret
    exact HP.out
  · rw [if_neg hg]
    go_enter Tryz.func186, Tryz.ntmps186
    go_wp2_with fail
    go_ret
    exact stepP_no rfl (Bk.of (G.bl_alloc (Below.refl _ _) _) HS.out.base_le)
end Go.Proofs.YtofgmijmhpmabaaGreatDoor.D

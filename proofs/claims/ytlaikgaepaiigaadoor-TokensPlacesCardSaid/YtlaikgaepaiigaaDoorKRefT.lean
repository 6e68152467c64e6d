/- The contract of the reference's text. -/
import Derived.Test.YtlaikgaepaiigaaDoorKRefX
namespace Go.Proofs.YtlaikgaepaiigaaDoor.K
open Go Go.RowKit
set_option linter.unusedVariables false
set_option linter.unusedSimpArgs false
theorem own_upd {w w' : World} {g base sz n : Nat} {e : TypeId} {v : Value} {xs : List Value} (h : w.ownsRow base e sz v n xs) (hg : g < base) (hu : Upd g w w') : w'.ownsRow base e sz v n xs := by
  refine ⟨h.1, h.2.imp id ?_⟩
  rintro ⟨k, cap, cur, e1, hb, hk, r⟩
  have hlt : k < w.heap.size := (Array.getElem?_eq_some_iff.1 hk).1
  exact ⟨k, cap, cur, e1, hb, (hu.2 k (by omega) hlt).trans hk, r⟩
theorem upd_grown {w w1 w' : World} {g : Nat} {v : Value} {e : TypeId} {sz n : Nat} {xs : List Value} (h : Upd g w w1) (ho : w1.ownsRow w.heap.size e sz v n xs) (hl : g < w.heap.size) (hg : w1.grownBy w' v.ownBlock) : Upd g w w' := by
  have hgb : ∀ k, v.ownBlock = some k → w.heap.size ≤ k := fun k hk => (ho.lt k hk).1
  refine ⟨h.1.grown hg (by have := h.1.size; omega) (fun k hk => by have := hgb k hk; omega), fun b h1 h2 => ?_⟩
  rw [← h.2 b h1 h2]
  exact hg.block b (Nat.lt_of_lt_of_le h2 h.1.size) (fun e => by have := hgb b e.symm; omega)
/-- Where the reference's text stands: the cutter, what has been said. -/
structure TS (w0 w : World) (g : Nat) (A : Option Addr) (n c : Nat) (q bad : Int) (v : Value) (out : List UInt8) : Prop where
  lt : g < w0.heap.size
  cut : Cutter w g A n c q bad
  up : Upd g w0 w
  own : w.ownsRow w0.heap.size 5 1 v out.length (u8L out)
section
variable {w0 w w' : World} {g n c : Nat} {A : Option Addr} {q bad : Int} {v : Value} {out : List UInt8}
theorem TS.drewN (h : TS w0 w g A n c q bad v out) (k : Nat) : TS w0 (w.drewN k) g A n c q bad v out :=
  ⟨h.lt, h.cut.below (G.bl_drewN (Below.refl _ _) k) h.cut.lt, h.up.trans (Upd.drewN g w k), own_upd h.own h.lt (Upd.drewN g w k)⟩
theorem TS.atTo (h : TS w0 w g A n c q bad v out) (x : Int) : TS w0 (w.setCell ⟨g, 1, none⟩ (.int .i64 x)) g A n c x bad v out :=
  ⟨h.lt, h.cut.put 1 (.int .i64 x), h.up.trans (Upd.set (g := g) w 1 (.int .i64 x)), own_upd h.own h.lt (Upd.set (g := g) w 1 (.int .i64 x))⟩
theorem TS.badTo (h : TS w0 w g A n c q bad v out) (x : Int) : TS w0 (w.setCell ⟨g, 2, none⟩ (.int .i64 x)) g A n c q x v out :=
  ⟨h.lt, h.cut.put 2 (.int .i64 x), h.up.trans (Upd.set (g := g) w 2 (.int .i64 x)), own_upd h.own h.lt (Upd.set (g := g) w 2 (.int .i64 x))⟩
theorem TS.grow (h : TS w0 w g A n c q bad v out) {o : Obj} {v' : Value} {out' : List UInt8} (hown : w'.ownsRow w0.heap.size 5 1 v' out'.length (u8L out')) (hg : (w.alloc o).grownBy w' v.ownBlock) : TS w0 w' g A n c q bad v' out' := by
  have hu : Upd g w0 (w.alloc o) := h.up.trans (Upd.below (G.bl_alloc (Below.refl _ _) o) (Nat.le_of_lt h.cut.lt))
  have hu2 := upd_grown hu (h.own.alloc o) h.lt hg
  refine ⟨h.lt, ?_, hu2, hown⟩
  refine (h.cut.alloc o).same (hg.block g (by have := h.cut.lt; simp; omega) fun e => ?_)
  have := ((h.own.alloc o).lt g e.symm).1
  have := h.lt
  omega
end
def RTextPost (A : Option Addr) (c : Nat) (s : ByteArray) (q g : Nat) (bad : Int) (w : World) (e : Ending) (w' : World) : Prop :=
  ∃ t : ByteArray, e = .returned (.string t) ∧ Upd g w w' ∧ ((∃ p at_, textRes s q = (none, p) ∧ Cutter w' g A s.size c at_ p) ∨ (∃ out p, textRes s q = (some out, p) ∧ t = ⟨out.toArray⟩ ∧ Cutter w' g A s.size c p bad))
theorem rtext_bad {A : Option Addr} {c : Nat} {s : ByteArray} {q g p : Nat} {bad at_ : Int} {w w' : World} {t : ByteArray} {n : Nat} (hn : n = s.size) (hr : textRes s q = (none, p)) (hc : Cutter w' g A n c at_ p) (hu : Upd g w w') : RTextPost A c s q g bad w (.returned (.string t)) w' :=
  ⟨t, rfl, hu, .inl ⟨p, at_, hr, hn ▸ hc⟩⟩
theorem rtext_ok {A : Option Addr} {c : Nat} {s : ByteArray} {q g p : Nat} {bad : Int} {w w' : World} {out : List UInt8} {n : Nat} {at_ : Int} (hn : n = s.size) (hr : textRes s q = (some out, p)) (hat : at_ = p) (hc : Cutter w' g A n c at_ bad) (hu : Upd g w w') : RTextPost A c s q g bad w (.returned (.string ⟨out.toArray⟩)) w' :=
  ⟨_, rfl, hu, .inr ⟨out, p, hr, rfl, hat ▸ hn ▸ hc⟩⟩
set_option maxRecDepth 100000 in
set_option maxHeartbeats 16000000 in
theorem refText_any (A : Option Addr) (c : Nat) (s : ByteArray) (p g : Nat) (bad : Int) (w : World) (hs : Src w A s) (hc : s.size ≤ c) (hn : s.size ≤ 65536) (hA : 0 < s.size → ∀ b o, A = some ⟨b, o, none⟩ → b < g) (hp : p < s.size) (hg : Cutter w g A s.size c p bad) :
    Calls Tryd.prog 60 #[.pointer (some ⟨g, 0, none⟩)] w (RTextPost A c s p g bad w) := by
  obtain ⟨i0, hinf, hz0, hz1, hz2⟩ := info_parts infoU8
  obtain ⟨b, o, hAe, hbw, hbs⟩ := hs (by omega)
  have hbg := hA (by omega) b o hAe
  subst hAe
  have HBY := Lib.hid (fun W (hu : Upd g w W) => (fun i hi => (hu.1.cell (p := ⟨b, o + i, none⟩) hbg).trans (hbs i hi) : Lib.Bytes W b o s))
  obtain ⟨n, hns⟩ : ∃ n, n = s.size := ⟨_, rfl⟩
  have HN := Lib.hid hns
  have HCB := Lib.hid (fun W (hu : Upd g w W) i (hi : i < n) => show W.cell? ⟨b, o + i, none⟩ = some (.int .u8 (bt s i)) by
    rw [HBY.out W hu i (by rw [← hns]; exact hi), bt_get (by rw [← hns]; exact hi)])
  rw [← hns] at hn hg hp
  have hnI : (n : Int) ≤ 65536 := by omega
  have hp0 : (0 : Int) ≤ p := by omega
  have hpn : (p : Int) < n := by omega
  have k0 := hg.cell 0
  have k1 := hg.cell 1
  have f1 := hg.frozen 1
  simp at k0 k1
  have HT0 := Lib.hid (TS.atTo (v := .slice none 0 0) (out := []) ⟨hg.lt, hg, Upd.refl g w, World.ownsRow_nil _ _ _ _⟩ ((p : Int) + 1))
  clear hs hc hA hns hbw hbs hg hbg
  go_enter Tryd.func60, Tryd.ntmps60
  go_wp2_with fail
  clear k0 k1 f1
  go_loopg [4] (n - (p + 1)) (fun gk l wr => ∃ (v : Value) (q : Nat) (out : List UInt8) (f : Nat), v = l ∧ n - q = gk ∧ p < q ∧ q ≤ n ∧ out.length ≤ q ∧ n + 1 ≤ f + q ∧ Hid (textGo s p f q out = textRes s p) ∧ TS w wr g (some ⟨b, o, none⟩) n c q bad v out)
  case atStart => exact ⟨_, p + 1, [], s.size - p, rfl, rfl, by omega, by omega, by simp, by have := HN.out; omega, Lib.hid rfl, by simpa using HT0.out⟩
  case round =>
    obtain ⟨v, q, out, f, rfl, hgk, hpq, hqn, hol, hf, HG, hts⟩ := hrel
    have HT := Lib.hid hts
    have hq0 : (0 : Int) ≤ q := by omega
    have HGK := Lib.hid hgk
    obtain ⟨ao, cap, hv⟩ := G.own_shape hts.own
    clear hts hgk
    have c0 := HT.out.cut.cell 0
    have c1 := HT.out.cut.cell 1
    have c2 := HT.out.cut.cell 2
    have l1 := HT.out.cut.frozen 1
    have l2 := HT.out.cut.frozen 2
    simp at c0 c1 c2
    by_cases hlt : q < n
    · have hltI : (q : Int) < n := by omega
      have hqn1 : ((q : Int) == n) = false := ne_b (by omega)
      have hcz := HCB.out wr HT.out.up q hlt
      have hbr := bt_range s q
      by_cases h10 : bt s q = 10
      · have HR := Lib.hid (HG.out.symm.trans (tg_end (.inr h10)))
        rw [h10] at hcz
        clear hbr h10
        go_wp2_with fail
        go_quiet (fail)
        obtain ⟨w4, hw4⟩ : ∃ w4, w4 = wr.drewN nq := ⟨_, rfl⟩
        have HT4 := Lib.hid (show TS w w4 g (some ⟨b, o, none⟩) n c q bad v out by rw [hw4]; exact HT.out.drewN nq)
        go_upto_region 5 with (fail)
        rw [← hw4]
        clear hw4
        clear c0 c1 c2 l1 l2 
        have k0 := HT4.out.cut.cell 0
        have k1 := HT4.out.cut.cell 1
        have k2 := HT4.out.cut.cell 2
        have l1 := HT4.out.cut.frozen 1
        have l2 := HT4.out.cut.frozen 2
        simp at k0 k1 k2
        have HTE := Lib.hid (HT4.out.badTo (p : Int))
        go_wp2_with fail
        go_ret
        exact rtext_bad HN.out HR.out HTE.out.cut HTE.out.up
      · have hne : ¬ (s.size ≤ q ∨ bt s q = 10) := by have := HN.out; omega
        have n10 := ne_b h10
        obtain ⟨f', rfl⟩ : ∃ f', f = f' + 1 := ⟨f - 1, by omega⟩
        by_cases h34 : bt s q = 34
        · rw [h34] at hcz n10
          go_wp2_with fail
          go_quiet (fail)
          obtain ⟨w4, hw4⟩ : ∃ w4, w4 = wr.drewN nq := ⟨_, rfl⟩
          have HT4 := Lib.hid (show TS w w4 g (some ⟨b, o, none⟩) n c q bad v out by rw [hw4]; exact HT.out.drewN nq)
          go_upto_region 7 with (fail)
          rw [← hw4]
          clear hw4
          clear c0 c1 c2 l1 l2 
          have k0 := HT4.out.cut.cell 0
          have k1 := HT4.out.cut.cell 1
          have k2 := HT4.out.cut.cell 2
          have l1 := HT4.out.cut.frozen 1
          have l2 := HT4.out.cut.frozen 2
          simp at k0 k1 k2
          have hcz2 := HCB.out w4 HT4.out.up q hlt
          rw [h34] at hcz2
          go_quiet (fail)
          obtain ⟨w5, hw5⟩ : ∃ w5, w5 = w4.drewN nq := ⟨_, rfl⟩
          have HT5 := Lib.hid (show TS w w5 g (some ⟨b, o, none⟩) n c q bad v out by rw [hw5]; exact HT4.out.drewN nq)
          go_upto_region 8 with (fail)
          rw [← hw5]
          clear hw5 hcz2 k0 k1 k2 l1 l2
          have m0 := HT5.out.cut.cell 0
          have m1 := HT5.out.cut.cell 1
          have m2 := HT5.out.cut.cell 2
          have l1 := HT5.out.cut.frozen 1
          have l2 := HT5.out.cut.frozen 2
          simp at m0 m1 m2
          have HT6 := Lib.hid (HT5.out.atTo ((q : Int) + 1))
          by_cases hlen : 64 < out.length
          · have HR := Lib.hid (HG.out.symm.trans (tg_long hne h34 hlen))
            have hlI : (64 : Int) < out.length := by omega
            have HT7 := Lib.hid (HT6.out.badTo (p : Int))
            have j0 := HT6.out.cut.cell 0
            have j2 := HT6.out.cut.cell 2
            have f2 := HT6.out.cut.frozen 2
            simp at j0 j2
            have hst := own_string HT7.out.own
            subst hv
            clear hbr hne n10 h34
            go_wp2_with fail
            go_ret
            exact rtext_bad HN.out HR.out HT7.out.cut HT7.out.up
          · have HR := Lib.hid (HG.out.symm.trans (tg_quote (by omega) hne h34 hlen))
            have hlI : ¬ (64 : Int) < out.length := by omega
            have hst := own_string HT6.out.own
            subst hv
            clear hbr hne n10 h34
            go_wp2_with fail
            go_ret
            exact rtext_ok HN.out HR.out (by omega) HT6.out.cut HT6.out.up
        · have n34 := ne_b h34
          by_cases h92 : bt s q = 92
          · rw [h92] at hcz n10 n34
            go_wp2_with fail
            go_quiet (fail)
            obtain ⟨w4, hw4⟩ : ∃ w4, w4 = wr.drewN nq := ⟨_, rfl⟩
            have HT4 := Lib.hid (show TS w w4 g (some ⟨b, o, none⟩) n c q bad v out by rw [hw4]; exact HT.out.drewN nq)
            go_upto_region 7 with (fail)
            rw [← hw4]
            clear hw4
            clear c0 c1 c2 l1 l2 
            have k0 := HT4.out.cut.cell 0
            have k1 := HT4.out.cut.cell 1
            have k2 := HT4.out.cut.cell 2
            have l1 := HT4.out.cut.frozen 1
            have l2 := HT4.out.cut.frozen 2
            simp at k0 k1 k2
            have hcz2 := HCB.out w4 HT4.out.up q hlt
            rw [h92] at hcz2
            go_quiet (fail)
            obtain ⟨w5, hw5⟩ : ∃ w5, w5 = w4.drewN nq := ⟨_, rfl⟩
            have HT5 := Lib.hid (show TS w w5 g (some ⟨b, o, none⟩) n c q bad v out by rw [hw5]; exact HT4.out.drewN nq)
            go_upto_region 8 with (fail)
            rw [← hw5]
            clear hw5 hcz2 k0 k1 k2 l1 l2
            have m0 := HT5.out.cut.cell 0
            have m1 := HT5.out.cut.cell 1
            have m2 := HT5.out.cut.cell 2
            have l1 := HT5.out.cut.frozen 1
            have l2 := HT5.out.cut.frozen 2
            simp at m0 m1 m2
            have w1q : IntKind.i64.wrap ((q : Int) + 1) = (q : Int) + 1 := IntWalk.i64_in _ (by omega)
            have q10 : (0 : Int) ≤ (q : Int) + 1 := by omega
            have w1n : ((q : Int) + 1).toNat = q + 1 := by omega
            by_cases hnx : q + 1 < n
            · have hnxI : (((q : Int) + 1) == n) = false := ne_b (by omega)
              have hnx2 : (q : Int) + 1 < n := by omega
              have hce2 := HCB.out w5 HT5.out.up (q + 1) hnx
              have hbr2 := bt_range s (q + 1)
              by_cases hok : bt s (q + 1) = 34 ∨ bt s (q + 1) = 92
              · have HR := Lib.hid ((tg_esc_ok (p := p) (f := f') (out := out) hne h92 ⟨by rw [← HN.out]; exact hnx, hok⟩).symm.trans HG.out)
                have HSN := Lib.hid (u8L_snoc out hbr2.1 hbr2.2)
                rcases hok with hy | hy
                all_goals
                  rw [hy] at hce2
                  rw [hy] at HSN HR
                  clear hbr hne n10 h34 h92 hbr2 n34
                  go_upto_region 14 with (fail)
                  go_quiet (fail)
                  obtain ⟨w6, hw6⟩ : ∃ w6, w6 = w5.drewN nq := ⟨_, rfl⟩
                  have HT6 := Lib.hid (show TS w w6 g (some ⟨b, o, none⟩) n c q bad v out by rw [hw6]; exact HT5.out.drewN nq)
                  go_upto_region 17 with (fail)
                  rw [← hw6]
                  clear hw6 hce2 m0 m1 m2 l1 l2
                  have k0 := HT6.out.cut.cell 0
                  have k1 := HT6.out.cut.cell 1
                  have l1 := HT6.out.cut.frozen 1
                  simp at k0 k1
                  obtain ⟨w7, hw7⟩ : ∃ w7, w7 = w6.setCell ⟨g, 1, none⟩ (.int .i64 ((q : Int) + 1)) := ⟨_, rfl⟩
                  have HT7 := Lib.hid (show TS w w7 g (some ⟨b, o, none⟩) n c ((q : Int) + 1) bad v out by rw [hw7]; exact HT6.out.atTo _)
                  go_upto_region 18 with (fail)
                  rw [← hw7]
                  clear hw7 k0 k1 l1
                  have k0 := HT7.out.cut.cell 0
                  have k1 := HT7.out.cut.cell 1
                  have l1 := HT7.out.cut.frozen 1
                  simp at k0 k1
                  have hce3 := HCB.out w7 HT7.out.up (q + 1) hnx
                  rw [hy] at hce3
                  clear hy
                  go_quiet (fail)
                  obtain ⟨w8, hw8⟩ : ∃ w8, w8 = w7.drewN nq := ⟨_, rfl⟩
                  have HT8 := Lib.hid (show TS w w8 g (some ⟨b, o, none⟩) n c ((q : Int) + 1) bad v out by rw [hw8]; exact HT7.out.drewN nq)
                  go_upto_region 22 with (fail)
                  rw [← hw8]
                  clear hw8 k0 k1 l1 hce3
                  go_upto_region 23 with (at_builtin; refine wpList_append_own _ rfl (.tmp 150) (.tmp 152) 22 rfl w.heap.size 5 i0 (.int .u8 0) 1 1 Tryd.underlying22 hinf hz0 hz1 hz2 rfl (by decide) _ _ _ rfl (HT8.out.own.alloc _) ⟨w8.heap.size, 0, none⟩ 1 1 [_] rfl rfl (G.cells_new _ _ _ _ rfl) (u8_one _) (by unfold maxLen; omega) (by omega) (by have := HT8.out.up.1.size; simp; omega) ?_; intro v3 w9 hown3 hg3 _q; have HT9 := Lib.hid (HT8.out.grow (out' := out ++ [_]) (by rw [HSN.out, List.length_append]; exact hown3) hg3); clear hown3 hg3)
                  have k0 := HT9.out.cut.cell 0
                  have k1 := HT9.out.cut.cell 1
                  have l1 := HT9.out.cut.frozen 1
                  simp at k0 k1
                  have HTA := Lib.hid (HT9.out.atTo ((q : Int) + 2))
                  have w2q : IntKind.i64.wrap ((q : Int) + 1 + 1) = (q : Int) + 2 := by rw [show (q : Int) + 1 + 1 = (q : Int) + 2 by omega]; exact IntWalk.i64_in _ (by omega)
                  go_wp2_with fail
                  go_roundg (n - (q + 2))
                  case rel => exact ⟨_, q + 2, _, f', rfl, rfl, by omega, by omega, by simp; omega, by omega, HR, HTA.out⟩
                  case measure => have := HGK.out; omega
              · have HR := Lib.hid (HG.out.symm.trans (tg_esc (by omega) hne h92 (fun h => hok h.2)))
                have m34 := ne_b2 (show ¬ bt s (q + 1) = 34 from fun h => hok (.inl h))
                have m92 := ne_b2 (show ¬ bt s (q + 1) = 92 from fun h => hok (.inr h))
                generalize bt s (q + 1) = y at *
                clear hbr hne n10 h34 h92 hok n34
                go_upto_region 14 with (fail)
                go_quiet (fail)
                obtain ⟨w6, hw6⟩ : ∃ w6, w6 = w5.drewN nq := ⟨_, rfl⟩
                have HT6 := Lib.hid (show TS w w6 g (some ⟨b, o, none⟩) n c q bad v out by rw [hw6]; exact HT5.out.drewN nq)
                go_upto_region 15 with (fail)
                rw [← hw6]
                clear hw6 hce2 m0 m1 m2 l1 l2
                have k0 := HT6.out.cut.cell 0
                have k1 := HT6.out.cut.cell 1
                have k2 := HT6.out.cut.cell 2
                have l2 := HT6.out.cut.frozen 2
                simp at k0 k1 k2
                have HTE := Lib.hid (HT6.out.badTo (q : Int))
                go_wp2_with fail
                go_ret
                exact rtext_bad HN.out HR.out HTE.out.cut HTE.out.up
            · have hnxI : (((q : Int) + 1) == n) = true := by simp; omega
              have hqe : (q : Int) + 1 = n := by omega
              have HR := Lib.hid (HG.out.symm.trans (tg_esc (by omega) hne h92 (fun h => hnx (by rw [HN.out]; exact h.1))))
              clear hbr hne n10 h34 h92 n34
              go_upto_region 14 with (fail)
              go_quiet (fail)
              obtain ⟨w6, hw6⟩ : ∃ w6, w6 = w5.drewN nq := ⟨_, rfl⟩
              have HT6 := Lib.hid (show TS w w6 g (some ⟨b, o, none⟩) n c q bad v out by rw [hw6]; exact HT5.out.drewN nq)
              go_upto_region 15 with (fail)
              rw [← hw6]
              clear hw6 m0 m1 m2 l1 l2
              have k0 := HT6.out.cut.cell 0
              have k1 := HT6.out.cut.cell 1
              have k2 := HT6.out.cut.cell 2
              have l2 := HT6.out.cut.frozen 2
              simp at k0 k1 k2
              have HTE := Lib.hid (HT6.out.badTo (q : Int))
              go_wp2_with fail
              go_ret
              exact rtext_bad HN.out HR.out HTE.out.cut HTE.out.up
          · have n92 := ne_b h92
            obtain ⟨y, hy⟩ : ∃ y, y = bt s q := ⟨_, rfl⟩
            have HY := Lib.hid hy
            rw [← hy] at hcz n10 n34 n92 hbr
            clear hy
            go_wp2_with fail
            go_quiet (fail)
            obtain ⟨w4, hw4⟩ : ∃ w4, w4 = wr.drewN nq := ⟨_, rfl⟩
            have HT4 := Lib.hid (show TS w w4 g (some ⟨b, o, none⟩) n c q bad v out by rw [hw4]; exact HT.out.drewN nq)
            go_upto_region 7 with (fail)
            rw [← hw4]
            clear hw4
            clear c0 c1 c2 l1 l2 
            have k0 := HT4.out.cut.cell 0
            have k1 := HT4.out.cut.cell 1
            have k2 := HT4.out.cut.cell 2
            have l1 := HT4.out.cut.frozen 1
            have l2 := HT4.out.cut.frozen 2
            simp at k0 k1 k2
            have hcz2 := HCB.out w4 HT4.out.up q hlt
            rw [← HY.out] at hcz2
            go_quiet (fail)
            obtain ⟨w5, hw5⟩ : ∃ w5, w5 = w4.drewN nq := ⟨_, rfl⟩
            have HT5 := Lib.hid (show TS w w5 g (some ⟨b, o, none⟩) n c q bad v out by rw [hw5]; exact HT4.out.drewN nq)
            go_upto_region 8 with (fail)
            rw [← hw5]
            clear hw5 hcz2 k0 k1 k2 l1 l2
            have m0 := HT5.out.cut.cell 0
            have m1 := HT5.out.cut.cell 1
            have m2 := HT5.out.cut.cell 2
            have l1 := HT5.out.cut.frozen 1
            have l2 := HT5.out.cut.frozen 2
            simp at m0 m1 m2
            by_cases hbad : y < 32 ∨ 126 < y
            · have HR := Lib.hid (HG.out.symm.trans (tg_bad (by omega) hne h34 h92 (by rw [← HY.out]; exact hbad)))
              clear hbr hne h34 h92 h10
              have HTE := Lib.hid (HT5.out.badTo (q : Int))
              rcases hbad with hb1 | hb1
              · go_wp2_with fail
                go_ret
                exact rtext_bad HN.out HR.out HTE.out.cut HTE.out.up
              · have hb2 : ¬ y < 32 := by omega
                go_wp2_with fail
                go_ret
                exact rtext_bad HN.out HR.out HTE.out.cut HTE.out.up
            · have HR := Lib.hid ((tg_step (p := p) (f := f') (out := out) hne h34 h92 (by rw [← HY.out]; exact hbad)).symm.trans HG.out)
              have HSN := Lib.hid (u8L_snoc out hbr.1 hbr.2)
              rw [← HY.out] at HR
              have g32 : ¬ y < 32 := by omega
              have g126 : ¬ 126 < y := by omega
              clear hbr hne h34 h92 hbad h10 m0 m1 m2 l1 l2
              go_upto_region 22 with (fail)
              go_upto_region 23 with (at_builtin; refine wpList_append_own _ rfl (.tmp 150) (.tmp 152) 22 rfl w.heap.size 5 i0 (.int .u8 0) 1 1 Tryd.underlying22 hinf hz0 hz1 hz2 rfl (by decide) _ _ _ rfl (HT5.out.own.alloc _) ⟨w5.heap.size, 0, none⟩ 1 1 [_] rfl rfl (G.cells_new _ _ _ _ rfl) (u8_one _) (by unfold maxLen; omega) (by omega) (by have := HT5.out.up.1.size; simp; omega) ?_; intro v3 w9 hown3 hg3 _q; have HT9 := Lib.hid (HT5.out.grow (out' := out ++ [_]) (by rw [HSN.out, List.length_append]; exact hown3) hg3); clear hown3 hg3)
              have k0 := HT9.out.cut.cell 0
              have k1 := HT9.out.cut.cell 1
              have l1 := HT9.out.cut.frozen 1
              simp at k0 k1
              have HTA := Lib.hid (HT9.out.atTo ((q : Int) + 1))
              go_wp2_with fail
              go_roundg (n - (q + 1))
              case rel => exact ⟨_, q + 1, _, f', rfl, rfl, by omega, by omega, by simp; omega, by omega, HR, HTA.out⟩
              case measure => have := HGK.out; omega
    · obtain rfl : n = q := by omega
      have HR := Lib.hid (HG.out.symm.trans (tg_end (.inl (by have := HN.out; omega))))
      go_wp2_with fail
      go_quiet (fail)
      obtain ⟨w4, hw4⟩ : ∃ w4, w4 = wr.drewN nq := ⟨_, rfl⟩
      have HT4 := Lib.hid (show TS w w4 g (some ⟨b, o, none⟩) n c n bad v out by rw [hw4]; exact HT.out.drewN nq)
      go_upto_region 5 with (fail)
      rw [← hw4]
      clear hw4
      clear c0 c1 c2 l1 l2 
      have k0 := HT4.out.cut.cell 0
      have k1 := HT4.out.cut.cell 1
      have k2 := HT4.out.cut.cell 2
      have l1 := HT4.out.cut.frozen 1
      have l2 := HT4.out.cut.frozen 2
      simp at k0 k1 k2
      have HTE := Lib.hid (HT4.out.badTo (p : Int))
      go_wp2_with fail
      go_ret
      exact rtext_bad HN.out HR.out HTE.out.cut HTE.out.up
end Go.Proofs.YtlaikgaepaiigaaDoor.K

/- The contract of tokens.text. -/
import Derived.Test.YtlaikgaepaiigaaGreatDoorKNum
import Derived.Laws.IdiomStrings
import Derived.OwnWalk
import Derived.Laws.AppendOwnNone
namespace Go.Proofs.YtlaikgaepaiigaaGreatDoor.K
open Go Go.RowKit
set_option linter.unusedVariables false
set_option linter.unusedSimpArgs false
theorem bl_grown {a w w' : World} {v : Value} {e : TypeId} {size n : Nat} {xs : List Value} (h : Below a.heap.size a w) (ho : w.ownsRow a.heap.size e size v n xs) (hg : w.grownBy w' v.ownBlock) : Below a.heap.size a w' :=
  h.grown hg h.size (fun k hk => (ho.lt k hk).1)
def u8L (l : List UInt8) : List Value := l.map fun c => .int .u8 (c.toNat : Int)
theorem u8L_snoc (l : List UInt8) {y : Int} (h0 : 0 ≤ y) (h1 : y ≤ 255) : u8L (l ++ [UInt8.ofNat y.toNat]) = u8L l ++ [.int .u8 y] := by
  unfold u8L
  rw [List.map_append]
  have e : ((UInt8.ofNat y.toNat).toNat : Int) = y := by
    rw [UInt8.toNat_ofNat']
    omega
  have e2 : max y 0 % 256 = y := by omega
  simp [e, e2]
theorem u8_one (y : Int) : ∀ u ∈ [Value.int .u8 y], u.oneCell' = true := by intro u hu; simp at hu; subst hu; rfl
theorem own_string {w : World} {B : Nat} {v : Value} {out : List UInt8} (h : w.ownsRow B 5 1 v out.length (u8L out)) : (convert 32 9 v).run Tryz.prog w = .ok (.string ⟨out.toArray⟩) w := by
  rcases h.2 with ⟨rfl, h0⟩ | ⟨g, cap, cur, rfl, _⟩
  · have : out = [] := List.length_eq_zero_iff.1 h0
    subst this
    rw [run_convert_bytes_string w 32 9 5 none 0 0 Tryz.underlying32 Tryz.underlying5 Tryz.underlying9]
    rfl
  · refine run_convert_bytes_back w 32 9 5 ⟨g, 0, none⟩ cap out Tryz.underlying32 Tryz.underlying5 Tryz.underlying9 ?_
    intro j hj
    have hc := h.cellAt j (by omega)
    have e : (u8L out)[j]? = some (.int .u8 (out[j].toNat : Int)) := by simp [u8L, hj]
    rw [e] at hc
    have ea : (⟨g, 0, none⟩ : Addr).add j = ⟨g, j, none⟩ := by
      simp [Addr.add]
      try exact fun h => h.symm
    rw [ea]
    exact hc
def textRes (s : ByteArray) (p : Nat) : Option (List UInt8) × Nat := textGo s p (s.size - p) (p + 1) []
def textVal (r : Option (List UInt8) × Nat) : Value :=
  match r.1 with
  | none => .tuple #[.string empB, .int .i64 (-1), .int .i64 r.2]
  | some out => .tuple #[.string ⟨out.toArray⟩, .int .i64 r.2, .int .i64 0]
def TextPost (s : ByteArray) (p : Nat) (w : World) (e : Ending) (w' : World) : Prop := e = .returned (textVal (textRes s p)) ∧ Below w.heap.size w w'
theorem textPost_mk {s : ByteArray} {p : Nat} {w w' : World} {v : Value} {r : Option (List UInt8) × Nat} (h : r = textRes s p) (hv : textVal r = v) (hb : Below w.heap.size w w') : TextPost s p w (.returned v) w' := ⟨by rw [← h, hv], hb⟩
theorem infoU8 : (Tryz.prog.info? 5).map (fun i => (i.zero, i.size, i.bytes)) = some (some (.int .u8 0), 1, 1) := by kernel_rfl
theorem tg_end {s : ByteArray} {p f q : Nat} {out : List UInt8} (h : s.size ≤ q ∨ bt s q = 10) : textGo s p f q out = (none, p) := by
  cases f with
  | zero => rfl
  | succ f => rw [textGo, if_pos h]
theorem tg_long {s : ByteArray} {p f q : Nat} {out : List UInt8} (h : ¬ (s.size ≤ q ∨ bt s q = 10)) (h1 : bt s q = 34) (h2 : 64 < out.length) : textGo s p f q out = (none, p) := by
  cases f with
  | zero => rfl
  | succ f => rw [textGo, if_neg h, if_pos h1, if_pos h2]
theorem tg_quote {s : ByteArray} {p f q : Nat} {out : List UInt8} (hf : 0 < f) (h : ¬ (s.size ≤ q ∨ bt s q = 10)) (h1 : bt s q = 34) (h2 : ¬ 64 < out.length) : textGo s p f q out = (some out, q + 1) := by
  cases f with
  | zero => omega
  | succ f => rw [textGo, if_neg h, if_pos h1, if_neg h2]
theorem tg_esc {s : ByteArray} {p f q : Nat} {out : List UInt8} (hf : 0 < f) (h : ¬ (s.size ≤ q ∨ bt s q = 10)) (h1 : bt s q = 92) (h2 : ¬ (q + 1 < s.size ∧ (bt s (q + 1) = 34 ∨ bt s (q + 1) = 92))) : textGo s p f q out = (none, q) := by
  cases f with
  | zero => omega
  | succ f => rw [textGo, if_neg h, if_neg (by omega), if_pos h1, if_neg h2]
theorem tg_esc_ok {s : ByteArray} {p f q : Nat} {out : List UInt8} (h : ¬ (s.size ≤ q ∨ bt s q = 10)) (h1 : bt s q = 92) (h2 : q + 1 < s.size ∧ (bt s (q + 1) = 34 ∨ bt s (q + 1) = 92)) : textGo s p (f + 1) q out = textGo s p f (q + 2) (out ++ [UInt8.ofNat (bt s (q + 1)).toNat]) := by
  rw [textGo, if_neg h, if_neg (by omega), if_pos h1, if_pos h2]
theorem tg_bad {s : ByteArray} {p f q : Nat} {out : List UInt8} (hf : 0 < f) (h : ¬ (s.size ≤ q ∨ bt s q = 10)) (h1 : ¬ bt s q = 34) (h2 : ¬ bt s q = 92) (h3 : bt s q < 32 ∨ 126 < bt s q) : textGo s p f q out = (none, q) := by
  cases f with
  | zero => omega
  | succ f => rw [textGo, if_neg h, if_neg h1, if_neg h2, if_pos h3]
theorem tg_step {s : ByteArray} {p f q : Nat} {out : List UInt8} (h : ¬ (s.size ≤ q ∨ bt s q = 10)) (h1 : ¬ bt s q = 34) (h2 : ¬ bt s q = 92) (h3 : ¬ (bt s q < 32 ∨ 126 < bt s q)) : textGo s p (f + 1) q out = textGo s p f (q + 1) (out ++ [UInt8.ofNat (bt s q).toNat]) := by
  rw [textGo, if_neg h, if_neg h1, if_neg h2, if_neg h3]
set_option maxRecDepth 100000 in
set_option maxHeartbeats 4000000 in
theorem text_any (A : Option Addr) (c : Nat) (s : ByteArray) (p : Nat) (w : World) (hs : Src w A s) (hn : s.size ≤ 65536) (hp : p < s.size) :
    Calls Tryz.prog 28 #[.slice A s.size c, .int .i64 p] w (TextPost s p w) := by
  obtain ⟨i0, hinf, hz0, hz1, hz2⟩ := info_parts infoU8
  obtain ⟨b, o, rfl, hbw, hbs⟩ := hs (by omega)
  have HBW := Lib.hid hbw
  have HCE := Lib.hid (fun W (h : Below w.heap.size w W) q (hq : q < s.size) => show W.cell? ⟨b, o + q, none⟩ = some (.int .u8 (bt s q)) by
    rw [h.cell (p := ⟨b, o + q, none⟩) hbw, hbs q hq, bt_get hq])
  have hp0 : (0 : Int) ≤ p := by omega
  have hpn : (p : Int) < s.size := by omega
  have hnI : (s.size : Int) ≤ 65536 := by omega
  obtain ⟨n, hns⟩ : ∃ n, n = s.size := ⟨_, rfl⟩
  have HN := Lib.hid hns
  rw [← hns] at hp hpn hn hnI ⊢
  clear hs hbs hbw hns
  go_enter Tryz.func28, Tryz.ntmps28
  go_wp2_with fail
  go_loopw [7, 8, 9] (fun l u c wr => ∃ (q : Nat) (out : List UInt8) (f : Nat), u = .int .i64 q ∧ p < q ∧ q ≤ n ∧ out.length ≤ q ∧ n + 1 ≤ f + q ∧ Hid (textGo s p f q out = textRes s p) ∧ Below w.heap.size w wr ∧ wr.ownsRow w.heap.size 5 1 l out.length (u8L out)) (fun _ u _ _ => n - (intOf u).toNat)
  case atStart => exact ⟨p + 1, [], s.size - p, by go_num, by omega, by omega, by simp, by have := HN.out; omega, Lib.hid rfl, Below.refl _ _, World.ownsRow_nil _ _ _ _⟩
  case round =>
    obtain ⟨q, out, f, rfl, hpq, hqn, hol, hf, HG, hbel, hown⟩ := hrel
    have hq0 : (0 : Int) ≤ q := by omega
    have HOWN := Lib.hid hown
    have HBEL := Lib.hid hbel
    by_cases hlt : q < n
    · have hltI : (q : Int) < n := by omega
      have hce := HCE.out wr hbel q (by rw [← HN.out]; exact hlt)
      have hbr := bt_range s q
      by_cases h10 : bt s q = 10
      · have HR := Lib.hid (HG.out.symm.trans (tg_end (.inr h10)))
        rw [h10] at hce
        clear hown hbel hbr h10
        go_wp2_with fail
        go_ret3
        exact textPost_mk HR.out.symm rfl HBEL.out
      · have hne : ¬ (s.size ≤ q ∨ bt s q = 10) := by have := HN.out; omega
        have n10 := ne_b2 h10
        obtain ⟨g, rfl⟩ : ∃ g, f = g + 1 := ⟨f - 1, by omega⟩
        by_cases h34 : bt s q = 34
        · by_cases hlen : 64 < out.length
          · have HR := Lib.hid (HG.out.symm.trans (tg_long hne h34 hlen))
            have hlI : (64 : Int) < out.length := by omega
            rw [h34] at hce
            obtain ⟨ao, cap, hv⟩ := G.own_shape hown
            subst hv
            clear hown hbel hbr h10 hne n10 h34
            go_wp2_with fail
            go_ret3
            exact textPost_mk HR.out.symm rfl HBEL.out
          · have HR := Lib.hid (HG.out.symm.trans (tg_quote (by omega) hne h34 hlen))
            have hlI : ¬ (64 : Int) < out.length := by omega
            rw [h34] at hce
            have hst := own_string hown
            obtain ⟨ao, cap, hv⟩ := G.own_shape hown
            subst hv
            clear hown hbel hbr h10 hne n10 h34
            go_wp2_with fail
            go_ret3
            exact textPost_mk HR.out.symm rfl HBEL.out
        · have n34 := ne_b h34
          by_cases h92 : bt s q = 92
          · rw [h92] at hce
            by_cases hnx : q + 1 < n
            · have hnxI : ¬ (q : Int) + 1 = n := by omega
              have hnx2 : (q : Int) + 1 < n := by omega
              have nnx := ne_b hnxI
              have hce2 := HCE.out wr hbel (q + 1) (by rw [← HN.out]; exact hnx)
              have hbr2 := bt_range s (q + 1)
              by_cases hok : bt s (q + 1) = 34 ∨ bt s (q + 1) = 92
              · have HR := Lib.hid ((tg_esc_ok (p := p) (f := g) (out := out) hne h92 ⟨by rw [← HN.out]; exact hnx, hok⟩).symm.trans HG.out)
                have HSN := Lib.hid (u8L_snoc out hbr2.1 hbr2.2)
                have HEQ := Lib.hid hok
                generalize bt s (q + 1) = y at *
                clear hown hbel hbr h10 hne n10 h34 h92 hbr2 n34
                rcases hok with rfl | rfl
                all_goals
                  go_wp2_with (at_builtin; refine wpList_append_own _ rfl (.tmp 78) (.tmp 83) 32 rfl w.heap.size 5 i0 (.int .u8 0) 1 1 Tryz.underlying32 hinf hz0 hz1 hz2 rfl (by decide) _ _ _ rfl (HOWN.out.alloc _) ⟨wr.heap.size, 0, none⟩ 1 1 [_] rfl rfl (G.cells_new _ _ _ _ rfl) (u8_one _) (by unfold maxLen; omega) (by omega) (by have := HBEL.out.size; simp; omega) ?_; intro v3 w3 hown3 hg3 _q; have HB3 := Lib.hid (bl_grown (G.bl_alloc HBEL.out _) (HOWN.out.alloc _) hg3); have HO3 := Lib.hid hown3; clear hown3 hg3)
                  go_roundw
                  case rel => exact ⟨q + 2, _, g, by go_num, by omega, by omega, by simp; omega, by omega, HR, HB3.out, by rw [HSN.out, List.length_append]; exact HO3.out⟩
                  case measure => simp [intOf]; omega
              · have HR := Lib.hid (HG.out.symm.trans (tg_esc (by omega) hne h92 (fun h => hok h.2)))
                have m34 := ne_b2 (show ¬ bt s (q + 1) = 34 from fun h => hok (.inl h))
                have m92 := ne_b2 (show ¬ bt s (q + 1) = 92 from fun h => hok (.inr h))
                generalize bt s (q + 1) = y at *
                clear hown hbel hbr h10 hne n10 h34 h92 hok n34
                go_wp2_with fail
                go_ret3
                exact textPost_mk HR.out.symm (by simp [textVal, empB]; try omega) HBEL.out
            · have hnxI : (q : Int) + 1 = n := by omega
              have HR := Lib.hid (HG.out.symm.trans (tg_esc (by omega) hne h92 (fun h => hnx (by rw [HN.out]; exact h.1))))
              clear hown hbel hbr h10 hne n10 h34 h92 n34
              go_wp2_with fail
              go_ret3
              exact textPost_mk HR.out.symm (by simp [textVal, empB]; try omega) HBEL.out
          · have n92 := ne_b h92
            by_cases hbad : bt s q < 32 ∨ 126 < bt s q
            · have HR := Lib.hid (HG.out.symm.trans (tg_bad (by omega) hne h34 h92 hbad))
              generalize bt s q = y at *
              clear hown hbel hbr h10 hne h34 h92
              rcases hbad with hb1 | hb1
              · go_wp2_with fail
                go_ret3
                exact textPost_mk HR.out.symm rfl HBEL.out
              · have hb2 : ¬ y < 32 := by omega
                go_wp2_with fail
                go_ret3
                exact textPost_mk HR.out.symm rfl HBEL.out
            · have HR := Lib.hid ((tg_step (p := p) (f := g) (out := out) hne h34 h92 hbad).symm.trans HG.out)
              have HSN := Lib.hid (u8L_snoc out hbr.1 hbr.2)
              have g32 : ¬ bt s q < 32 := by omega
              have g126 : ¬ 126 < bt s q := by omega
              generalize bt s q = y at *
              clear hown hbel hbr h10 hne h34 h92 hbad
              go_wp2_with (at_builtin; refine wpList_append_own _ rfl (.tmp 78) (.tmp 83) 32 rfl w.heap.size 5 i0 (.int .u8 0) 1 1 Tryz.underlying32 hinf hz0 hz1 hz2 rfl (by decide) _ _ _ rfl (HOWN.out.alloc _) ⟨wr.heap.size, 0, none⟩ 1 1 [.int .u8 y] rfl rfl (G.cells_new _ _ _ _ rfl) (u8_one _) (by unfold maxLen; omega) (by omega) (by have := HBEL.out.size; simp; omega) ?_; intro v3 w3 hown3 hg3 _q; have HB3 := Lib.hid (bl_grown (G.bl_alloc HBEL.out _) (HOWN.out.alloc _) hg3); have HO3 := Lib.hid hown3; clear hown3 hg3)
              go_roundw
              case rel => exact ⟨q + 1, _, g, by go_num, by omega, by omega, by simp; omega, by omega, HR, HB3.out, by rw [HSN.out, List.length_append]; exact HO3.out⟩
              case measure => simp [intOf]; omega
    · have hltI : ¬ (q : Int) < n := by omega
      have HR := Lib.hid (HG.out.symm.trans (tg_end (.inl (by have := HN.out; omega))))
      clear hown hbel
      go_wp2_with fail
      go_ret3
      exact textPost_mk HR.out.symm rfl HBEL.out
end Go.Proofs.YtlaikgaepaiigaaGreatDoor.K

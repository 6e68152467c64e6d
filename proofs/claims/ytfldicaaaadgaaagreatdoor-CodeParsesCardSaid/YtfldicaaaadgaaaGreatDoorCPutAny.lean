/- The contract of code.Put, whatever the instructions. -/
import Derived.Test.YtfldicaaaadgaaaGreatDoorCPut
import Derived.Test.YtfldicaaaadgaaaGreatDoorCOpdFAny
namespace Go.Proofs.YtfldicaaaadgaaaGreatDoor.Code
open Go.RowKit
set_option linter.unusedVariables false
set_option linter.unusedSimpArgs false
instance (x : Ins) : Decidable (RightI x) := by unfold RightI; infer_instance
def putGo : List Ins → List Int → Nat → List Int × Int × Nat
  | [], b, _ => (b, 0, 0)
  | x :: l, b, i => if kindOf x.op < 0 then ([], 40, i) else if ¬ RightI x ∨ x.at_ ≠ (b.length : Int) then ([], 1, i) else if 65535 < (b.length : Int) + sizeOf x.op then ([], 56, i) else putGo l (b ++ encOf x) (i + 1)
/-- P16.4 -/
def putOf (l : List Ins) : List Int × Int × Nat := putGo l [] 0
def PutAPost (l : List Ins) (w : World) (e : Ending) (w' : World) : Prop :=
  ∃ v, e = .returned (.tuple #[v, .int .i64 (putOf l).2.1, .int .i64 (putOf l).2.2]) ∧ w'.ownsRow w.heap.size 5 1 v (putOf l).1.length (u8s (putOf l).1) ∧ Below w.heap.size w w'
theorem putPost_bad {l : List Ins} {w w' : World} {er : Int} {i : Nat} {e : Ending} (h : putOf l = ([], er, i)) (he : e = .returned (.tuple #[.slice none 0 0, .int .i64 er, .int .i64 i])) (hb : Below w.heap.size w w') : PutAPost l w e w' := by
  unfold PutAPost
  rw [h]
  exact ⟨_, he, World.ownsRow_nil _ _ _ _, hb⟩
set_option maxRecDepth 100000 in
set_option maxHeartbeats 8000000 in
theorem Put_any (b off cap : Nat) (l : List Ins) (w : World) (hm : l.length * 64 ≤ 140737488351232) (hr : RdV w b off (flat l)) (hop : ∀ x ∈ l, 0 ≤ x.op ∧ x.op < 256) :
    Calls Tryz.prog 12 #[.slice (some ⟨b, off, none⟩) l.length cap] w (PutAPost l w) := by
  obtain ⟨i0, hi, hz0, hz1, hz2⟩ := info_parts info5
  obtain ⟨n, hn⟩ : ∃ n, n = l.length := ⟨_, rfl⟩
  have HN := Lib.hid hn
  rw [← hn]
  rw [← hn] at hm
  have HOPS := Lib.hid hop
  clear hn hop
  go_enter Tryz.func12, Tryz.ntmps12
  go_wp2
  go_loopw [5, 13] (fun v i wr => ∃ pre suf, l = pre ++ suf ∧ i = .int .i64 (pre.length : Nat) ∧ Below w.heap.size w wr ∧ putGo suf (bytesOf pre) pre.length = putOf l ∧ (bytesOf pre).length ≤ 65535 ∧ wr.ownsRow w.heap.size 5 1 v (bytesOf pre).length (u8s (bytesOf pre)))
    (fun _ i _ => n - (intOf i).toNat)
  case atStart => exact ⟨[], l, rfl, rfl, Below.refl _ _, rfl, by simp [bytesOf], World.ownsRow_nil _ _ _ _⟩
  case round =>
    obtain ⟨pre, suf, hl, rfl, hbel, hgo, hmax, hown⟩ := hrel
    cases suf with
    | nil =>
      have hnl : ¬ (pre.length : Nat) < n := by rw [HN.out, hl]; simp
      have HGO := Lib.hid (show putOf l = (bytesOf pre, 0, 0) from hgo.symm)
      clear hl hr hgo
      go_wp2
      go_ret3
      exact ⟨_, by rw [HGO.out]; rfl, by rw [HGO.out]; exact hown, hbel⟩
    | cons x suf =>
      have hrw := (hr.below hbel)
      rw [hl] at hrw
      have hins := hrw.ins
      have hlt : (pre.length : Nat) < n := by rw [HN.out, hl]; simp
      have hox := HOPS.out x (by rw [hl]; simp)
      rw [putGo] at hgo
      by_cases hk0 : kindOf x.op < 0
      · rw [if_pos hk0] at hgo
        have HGO := Lib.hid hgo
        have HK := Lib.hid hk0
        obtain ⟨xa, xo, a, b', c⟩ := x
        simp only at hins
        obtain ⟨c0, c1, c2, c3, c4⟩ := hins
        clear hgo hk0 hl hr hrw hox
        go_wp2_with (go_at_call 40; refine (of_no _ _ HK.out).mono ?_; rintro e w1 ⟨rfl, hb1⟩)
        go_ret3
        exact putPost_bad HGO.out.symm rfl (by repeat (first | (with_reducible exact Bl.tr (Bl.al hbel _) hb1) | (with_reducible apply Bl.al)))
      · rw [if_neg hk0] at hgo
        have hk4 : kindOf x.op = 0 ∨ kindOf x.op = 1 ∨ kindOf x.op = 2 ∨ kindOf x.op = 3 := by
          rcases kind_or x.op hox.1 hox.2 with h | h | h | h | h <;> omega
        by_cases hri : RightI x
        · -- the numbers are right
          have hkind := hri.kind
          have hlen := hri.len
          have hop := opd_any x (kindOf x.op) (hk := rfl) (h := hri)
          obtain ⟨k, hk⟩ : ∃ k, k = kindOf x.op := ⟨_, rfl⟩
          rw [← hk] at hkind hop
          have HB := Lib.hid (show bytesOf (pre ++ [x]) = bytesOf pre ++ (x.op :: opBytes x) from bytesOf_snoc pre x)
          obtain ⟨m, hm1⟩ : ∃ m, m = (bytesOf pre).length := ⟨_, rfl⟩
          obtain ⟨nb, hnb⟩ : ∃ nb, nb = (opBytes x).length := ⟨_, rfl⟩
          have hsz : sizeOf x.op = 1 + nb := by
            have := hlen.1
            unfold encOf at this
            simp only [List.length_cons] at this
            omega
          have hnb4 : nb ≤ 4 := by rw [hnb]; exact hlen.2
          have HK := Lib.hid hk
          have HM := Lib.hid hm1
          have HNB := Lib.hid hnb
          have HL := Lib.hid hl
          rw [← hm1] at hown hgo hmax
          rw [hsz] at hgo
          have hHBl : bytesOf pre ++ encOf x = bytesOf (pre ++ [x]) := by rw [HB.out]; rfl
          rw [hHBl] at hgo
          have hgo1 : (if x.at_ ≠ (m : Int) then (([] : List Int), (1 : Int), pre.length) else if 65535 < (m : Int) + (1 + nb) then ([], 56, pre.length) else putGo suf (bytesOf (pre ++ [x])) (pre.length + 1)) = putOf l := by
            rw [← hgo]
            by_cases h1 : x.at_ = (m : Int)
            · rw [if_neg (show ¬ (x.at_ ≠ (m : Int)) from fun h => h h1), if_neg (show ¬ (¬ RightI x ∨ x.at_ ≠ (m : Int)) from fun h => h.elim (fun h => h hri) (fun h => h h1))]
            · rw [if_pos h1, if_pos (.inr h1)]
          clear hrw hr hl hk hm1 hnb hlen hri hk0 hox hsz hHBl hk4 hgo
          obtain ⟨xa, xo, a, b', c⟩ := x
          simp only at hins hgo1
          unfold Ins.val at hop
          simp only at hop
          have HOP := Lib.hid hop
          clear hop
          obtain ⟨ao, cp, rfl⟩ := own_shape hown
          obtain ⟨c0, c1, c2, c3, c4⟩ := hins
          have HGO := Lib.hid hgo1
          clear hgo1
          by_cases hat : xa = (m : Int)
          · subst hat
            by_cases hlim : 65535 < (m : Int) + (1 + nb)
            · have hgo2 := HGO.out
              rw [if_neg (by simp), if_pos hlim] at hgo2
              have HGO2 := Lib.hid hgo2
              have hlim1 : (65535 : Int) < (m : Int) + 1 + nb := by omega
              clear hgo2 hlim
              go_wp2_with (first
                | (go_at_call 40; refine (of_yes _ k _ HK.out.symm hkind).mono ?_; rintro e w1 ⟨rfl, hb1⟩; have hz1' := hb1.size; simp only [World.size_alloc] at hz1'; have hzz : wr.heap.size < w1.heap.size := (by omega); have hB1 := Bl.tr (Bl.al (Below.refl _ _) _) hb1; have hC1 := (bcell hb1).1; have e0 := hC1 wr.heap.size 0 (by simp); have e1 := hC1 wr.heap.size 1 (by simp); have e2 := hC1 wr.heap.size 2 (by simp); have e3 := hC1 wr.heap.size 3 (by simp); have e4 := hC1 wr.heap.size 4 (by simp); clear hC1; simp only [World.cell?_alloc_at, List.getElem?_toArray] at e0 e1 e2 e3 e4))
              refine (HOP.out _).mono ?_
              rintro e w2 ⟨vo, rfl, hb2, ho⟩
              have hov := ho rfl
              clear ho
              have hz2' := hb2.size
              simp only [World.size_alloc] at hz2'
              have hB2 := Bl.tr (Bl.al hB1 _) hb2
              have hown2 := Bl.own hown hB2
              have f0 : w2.cell? ⟨wr.heap.size, 0, none⟩ = some (.int .i64 m) := (hb2.cell (p := ⟨wr.heap.size, 0, none⟩) (by simp; omega)).trans ((World.cell?_alloc_past _ _ _ (by omega)).trans e0)
              have f1 : w2.cell? ⟨wr.heap.size, 1, none⟩ = some (.int .u8 xo) := (hb2.cell (p := ⟨wr.heap.size, 1, none⟩) (by simp; omega)).trans ((World.cell?_alloc_past _ _ _ (by omega)).trans e1)
              have HROW := Lib.hid (show ∀ r, (Value.slice ao m cp).ownBlock = some r → r < wr.heap.size from fun r hr => (hown.lt r hr).2)
              rw [List.length_map, ← HNB.out] at hov
              clear e0 e1 e2 e3 e4 hb1 hB1 c0 c1 c2 c3 c4
              have hb3 := Bl.tr hbel hB2
              have hzw : w.heap.size ≤ w2.heap.size := hb3.size
              clear hb2
              obtain ⟨ao2, cp2, rfl⟩ := own_shape hov
              go_wp2
              go_ret3
              exact putPost_bad HGO2.out.symm rfl (by repeat (first | (with_reducible exact hb3) | (with_reducible apply Bl.al)))
            · have hgo2 := HGO.out
              rw [if_neg (by simp), if_neg hlim] at hgo2
              have HGO2 := Lib.hid hgo2
              have hsz : ((m : Int) + 1 + nb) ≤ 65535 := by omega
              clear hgo2 hlim
              go_wp2_with (first
                | (go_at_call 40; refine (of_yes _ k _ HK.out.symm hkind).mono ?_; rintro e w1 ⟨rfl, hb1⟩; have hz1' := hb1.size; simp only [World.size_alloc] at hz1'; have hzz : wr.heap.size < w1.heap.size := (by omega); have hB1 := Bl.tr (Bl.al (Below.refl _ _) _) hb1; have hC1 := (bcell hb1).1; have e0 := hC1 wr.heap.size 0 (by simp); have e1 := hC1 wr.heap.size 1 (by simp); have e2 := hC1 wr.heap.size 2 (by simp); have e3 := hC1 wr.heap.size 3 (by simp); have e4 := hC1 wr.heap.size 4 (by simp); clear hC1; simp only [World.cell?_alloc_at, List.getElem?_toArray] at e0 e1 e2 e3 e4))
              refine (HOP.out _).mono ?_
              rintro e w2 ⟨vo, rfl, hb2, ho⟩
              have hov := ho rfl
              clear ho
              have hz2' := hb2.size
              simp only [World.size_alloc] at hz2'
              have hB2 := Bl.tr (Bl.al hB1 _) hb2
              have hown2 := Bl.own hown hB2
              have f0 : w2.cell? ⟨wr.heap.size, 0, none⟩ = some (.int .i64 m) := (hb2.cell (p := ⟨wr.heap.size, 0, none⟩) (by simp; omega)).trans ((World.cell?_alloc_past _ _ _ (by omega)).trans e0)
              have f1 : w2.cell? ⟨wr.heap.size, 1, none⟩ = some (.int .u8 xo) := (hb2.cell (p := ⟨wr.heap.size, 1, none⟩) (by simp; omega)).trans ((World.cell?_alloc_past _ _ _ (by omega)).trans e1)
              have HROW := Lib.hid (show ∀ r, (Value.slice ao m cp).ownBlock = some r → r < wr.heap.size from fun r hr => (hown.lt r hr).2)
              rw [List.length_map, ← HNB.out] at hov
              clear e0 e1 e2 e3 e4 hb1 hB1 c0 c1 c2 c3 c4
              have hb3 := Bl.tr hbel hB2
              have hzw : w.heap.size ≤ w2.heap.size := hb3.size
              clear hb2
              obtain ⟨ao2, cp2, rfl⟩ := own_shape hov
              go_wp2_with (first
                | (at_builtin; refine wpList_append_own _ rfl (.tmp 52) (.tmp 55) 58 rfl w.heap.size 5 i0 (.int .u8 0) 1 1 Tryz.underlying58 hi hz0 hz1 hz2 rfl (by decide) _ _ _ rfl (hown2.alloc _) ⟨w2.heap.size, 0, none⟩ 1 1 [.int .u8 xo] rfl rfl (cells_new _ [.int .u8 xo] _ _ rfl) (u8s_one [xo]) (by unfold maxLen; omega) (by omega) (by simp; omega) ?_; intro v3 w3 hown3 hg3 _q; have hz3 := hg3.size; simp only [World.size_alloc] at hz3; have ho3 := (hov.alloc (.cells #[.int .u8 xo] 5)).kept hg3 (own_apart hov (fun r hr => Nat.lt_of_lt_of_le (HROW.out r hr) (by simp; omega))))
                | (at_builtin; refine wpList_append_rows rfl (.tmp 56) (.tmp 57) 58 rfl w.heap.size _ 5 i0 (.int .u8 0) 1 1 Tryz.underlying58 hi hz0 hz1 hz2 rfl (by decide) _ _ _ rfl hown3 _ _ _ rfl ho3 (u8s_one _) (by unfold maxLen; omega) (by omega) (by omega) ?_; intro v4 w4 hown4 hg4))
              have e1 : (bytesOf (pre ++ [⟨m, xo, a, b', c⟩])).length = m + 1 + nb := by
                have h1 := HM.out
                have h2 := HNB.out
                rw [HB.out, List.length_append, List.length_cons]
                omega
              go_roundw
              case rel =>
                refine ⟨pre ++ [⟨m, xo, a, b', c⟩], suf, by rw [HL.out]; simp, by simp, Bl.grown (Bl.grown (Bl.al hb3 _) (hown2.alloc _) hg3) hown3 hg4, by rw [List.length_append]; exact HGO2.out, by rw [e1]; omega, ?_⟩
                rw [e1, HB.out]
                simpa [u8s] using hown4
              case measure => simp [intOf]; omega
          · have hat1 : (xa != (m : Int)) = true := by simpa using hat
            have hgo2 := HGO.out
            rw [if_pos hat] at hgo2
            have HGO2 := Lib.hid hgo2
            clear hgo2 hat
            go_wp2_with (first
              | (go_at_call 40; refine (of_yes _ k _ HK.out.symm hkind).mono ?_; rintro e w1 ⟨rfl, hb1⟩; have hz1' := hb1.size; simp only [World.size_alloc] at hz1'; have hzz : wr.heap.size < w1.heap.size := (by omega); have hB1 := Bl.tr (Bl.al (Below.refl _ _) _) hb1; have hC1 := (bcell hb1).1; have e0 := hC1 wr.heap.size 0 (by simp); have e1 := hC1 wr.heap.size 1 (by simp); have e2 := hC1 wr.heap.size 2 (by simp); have e3 := hC1 wr.heap.size 3 (by simp); have e4 := hC1 wr.heap.size 4 (by simp); clear hC1; simp only [World.cell?_alloc_at, List.getElem?_toArray] at e0 e1 e2 e3 e4))
            refine (HOP.out _).mono ?_
            rintro e w2 ⟨vo, rfl, hb2, ho⟩
            have hov := ho rfl
            clear ho
            have hz2' := hb2.size
            simp only [World.size_alloc] at hz2'
            have hB2 := Bl.tr (Bl.al hB1 _) hb2
            have hown2 := Bl.own hown hB2
            have f0 : w2.cell? ⟨wr.heap.size, 0, none⟩ = some (.int .i64 xa) := (hb2.cell (p := ⟨wr.heap.size, 0, none⟩) (by simp; omega)).trans ((World.cell?_alloc_past _ _ _ (by omega)).trans e0)
            have f1 : w2.cell? ⟨wr.heap.size, 1, none⟩ = some (.int .u8 xo) := (hb2.cell (p := ⟨wr.heap.size, 1, none⟩) (by simp; omega)).trans ((World.cell?_alloc_past _ _ _ (by omega)).trans e1)
            have HROW := Lib.hid (show ∀ r, (Value.slice ao m cp).ownBlock = some r → r < wr.heap.size from fun r hr => (hown.lt r hr).2)
            rw [List.length_map, ← HNB.out] at hov
            clear e0 e1 e2 e3 e4 hb1 hB1 c0 c1 c2 c3 c4
            have hb3 := Bl.tr hbel hB2
            have hzw : w.heap.size ≤ w2.heap.size := hb3.size
            clear hb2
            obtain ⟨ao2, cp2, rfl⟩ := own_shape hov
            go_wp2
            go_ret3
            exact putPost_bad HGO2.out.symm rfl (by repeat (first | (with_reducible exact hb3) | (with_reducible apply Bl.al)))
        · rw [if_pos (.inl hri)] at hgo
          have HGO := Lib.hid hgo
          have hbad := opd_bad x (kindOf x.op) (hk := rfl) (hk4 := hk4) (h := hri)
          obtain ⟨k, hk⟩ : ∃ k, k = kindOf x.op := ⟨_, rfl⟩
          rw [← hk] at hk4 hbad
          have HK := Lib.hid hk
          clear hgo hk0 hl hr hrw hox hri hk
          obtain ⟨xa, xo, a, b', c⟩ := x
          unfold Ins.val at hbad
          simp only at hbad hins
          have HBAD := Lib.hid hbad
          clear hbad
          obtain ⟨c0, c1, c2, c3, c4⟩ := hins
          go_wp2_with (go_at_call 40; refine (of_yes _ k _ HK.out.symm hk4).mono ?_; rintro e w1 ⟨rfl, hb1⟩; have hz1' := hb1.size; simp only [World.size_alloc] at hz1'; have hzz : wr.heap.size < w1.heap.size := (by omega); have hB1 := Bl.tr (Bl.al (Below.refl _ _) _) hb1; have hC1 := (bcell hb1).1; have e0 := hC1 wr.heap.size 0 (by simp); have e1 := hC1 wr.heap.size 1 (by simp); have e2 := hC1 wr.heap.size 2 (by simp); have e3 := hC1 wr.heap.size 3 (by simp); have e4 := hC1 wr.heap.size 4 (by simp); clear hC1; simp only [World.cell?_alloc_at, List.getElem?_toArray] at e0 e1 e2 e3 e4)
          refine (HBAD.out _).mono ?_
          rintro e w2 ⟨vo, rfl, hb2, ho⟩
          clear ho
          have hB2 := Bl.tr (Bl.al hB1 _) hb2
          go_wp2
          go_ret3
          exact putPost_bad HGO.out.symm rfl (by repeat (first | (with_reducible exact Bl.tr hbel hB2) | (with_reducible apply Bl.al)))
end Go.Proofs.YtfldicaaaadgaaaGreatDoor.Code

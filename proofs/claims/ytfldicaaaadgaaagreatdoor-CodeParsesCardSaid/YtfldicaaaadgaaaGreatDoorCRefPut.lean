/- The contract of the reference's Put, whatever the instructions. -/
import Derived.Test.YtfldicaaaadgaaaGreatDoorCRefN
import Derived.Test.YtfldicaaaadgaaaGreatDoorBag

namespace Go.Proofs.YtfldicaaaadgaaaGreatDoor.Code
open Go.RowKit
set_option linter.unusedVariables false
set_option linter.unusedSimpArgs false
/-- The bytes of the first j operands. -/
def encPart (x : Ins) (k : Int) : Nat → List Int
  | 0 => []
  | j + 1 => encPart x k j ++ (if (widthsOf k).getD j 0 = 2 then [numAt x j / 256, numAt x j % 256] else [numAt x j % 256])
theorem encPart_all (x : Ins) (k : Int) (hk : kindOf x.op = k) (hk4 : k = 0 ∨ k = 1 ∨ k = 2 ∨ k = 3) (hr : RightI x) : encPart x k (widthsOf k).length = opBytes x := by
  unfold RightI at hr
  unfold opBytes
  rw [hk] at hr ⊢
  rcases hk4 with rfl | rfl | rfl | rfl
  · rfl
  · simp at hr
    have : x.a % 256 = x.a := by omega
    simp [widthsOf, encPart, numAt, this]
  · simp at hr
    simp [widthsOf, encPart, numAt]
  · simp at hr
    have e1 : x.a % 256 = x.a := by omega
    have e2 : x.b % 256 = x.b := by omega
    simp [widthsOf, encPart, numAt, e1, e2]
theorem putPost_bad' {l : List Ins} {w w' : World} {er : Int} {i : Nat} {e : Ending} (h : putOf l = ([], er, i)) (he : e = .returned (.tuple #[.slice none 0 0, .int .i64 er, .int .i64 i])) (hb : Below w.heap.size w w') : PutAPost l w e w' := putPost_bad h he hb
set_option maxRecDepth 100000 in
set_option maxHeartbeats 8000000 in
theorem refPut_any (b off cap : Nat) (l : List Ins) (w : World) (hm : l.length * 64 ≤ 140737488351232) (hr : RdV w b off (flat l)) (hop : ∀ x ∈ l, 0 ≤ x.op ∧ x.op < 256) :
    Calls Tryz.prog 18 #[.slice (some ⟨b, off, none⟩) l.length cap] w (PutAPost l w) := by
  obtain ⟨i0, hi, hz0, hz1, hz2⟩ := info_parts info5
  obtain ⟨n, hn⟩ : ∃ n, n = l.length := ⟨_, rfl⟩
  have HN := Lib.hid hn
  rw [← hn]
  rw [← hn] at hm
  have HOPS := Lib.hid hop
  clear hn hop
  go_enter Tryz.func18, Tryz.ntmps18
  go_wp2
  go_loopw [5, 6] (fun v i wr => ∃ pre suf, l = pre ++ suf ∧ i = .int .i64 (pre.length : Nat) ∧ Below w.heap.size w wr ∧ putGo suf (bytesOf pre) pre.length = putOf l ∧ (bytesOf pre).length ≤ 65535 ∧ wr.ownsRow w.heap.size 5 1 v (bytesOf pre).length (u8s (bytesOf pre)))
    (fun _ i _ => n - (intOf i).toNat)
  case atStart => exact ⟨[], l, rfl, rfl, Below.refl _ _, rfl, by simp [bytesOf], World.ownsRow_nil _ _ _ _⟩
  case round =>
    obtain ⟨pre, suf, hl, rfl, hbel, hgo, hmax, hown⟩ := hrel
    cases suf with
    | nil =>
      have hnl : ¬ (pre.length : Nat) < n := by rw [HN.out, hl]; simp
      have HGO := Lib.hid (show putOf l = (bytesOf pre, 0, 0) from hgo.symm)
      clear hl hr hgo
      go_wp2
      go_ret3
      exact ⟨_, by rw [HGO.out]; rfl, by rw [HGO.out]; exact hown, hbel⟩
    | cons x suf =>
      have hrw := (hr.below hbel)
      rw [hl] at hrw
      have hins := hrw.ins
      have hlt : (pre.length : Nat) < n := by rw [HN.out, hl]; simp
      have hox := HOPS.out x (by rw [hl]; simp)
      rw [putGo] at hgo
      by_cases hk0 : kindOf x.op < 0
      · rw [if_pos hk0] at hgo
        have HGO := Lib.hid hgo
        have HW := Lib.hid (wd_none x.op hox.1 hox.2 hk0)
        obtain ⟨xa, xo, a, b', c⟩ := x
        simp only at hins HW
        obtain ⟨c0, c1, c2, c3, c4⟩ := hins
        clear hgo hk0 hl hr hrw hox
        go_wp2_with (go_at_call 55; refine (HW.out _).mono ?_; rintro e w1 ⟨v1, rfl, hb1⟩)
        go_ret3
        exact putPost_bad HGO.out.symm rfl (by repeat (first | (with_reducible exact Bl.tr (Bl.al hbel _) hb1) | (with_reducible apply Bl.al)))
      · rw [if_neg hk0] at hgo
        have hk4 : kindOf x.op = 0 ∨ kindOf x.op = 1 ∨ kindOf x.op = 2 ∨ kindOf x.op = 3 := by
          rcases kind_or x.op hox.1 hox.2 with h | h | h | h | h <;> omega
        have HK := Lib.hid (show kindOf x.op = kindOf x.op from rfl)
        obtain ⟨k, hk⟩ : ∃ k, k = kindOf x.op := ⟨_, rfl⟩
        have HW := Lib.hid (fun W => wd_some x.op hox.1 hox.2 k hk.symm (by omega) W)
        have HR := Lib.hid (fun W => right_any x k W hox hk.symm (by omega))
        have HS := Lib.hid (fun W => refSize_any x.op W hox.1 hox.2)
        have HNU := Lib.hid (fun W => refNumbers_any x W)
        have HRI := Lib.hid (right_iff x k hk.symm (by omega))
        have HMC := Lib.hid (most_cases k (by omega))
        have HEN := Lib.hid (fun h => encPart_all x k hk.symm (by omega) h)
        have HLEN := Lib.hid (fun h : RightI x => h.len)
        obtain ⟨m, hm1⟩ : ∃ m, m = (bytesOf pre).length := ⟨_, rfl⟩
        rw [← hm1] at hown hgo hmax
        obtain ⟨sz, hsz⟩ : ∃ sz, sz = sizeOf x.op := ⟨_, rfl⟩
        have hsz0 : 0 ≤ sz ∧ sz ≤ 5 := by
          rw [hsz]; unfold sizeOf width; split <;> (repeat' split) <;> omega
        rw [← hsz] at hgo HS
        have HSZ := Lib.hid hsz
        have HGO := Lib.hid hgo
        have HM := Lib.hid hm1
        have HL := Lib.hid hl
        have HOWN := Lib.hid hown
        obtain ⟨ao, cp, hv⟩ := own_shape hown
        subst hv
        obtain ⟨D, hD⟩ : ∃ D, D = decide (RightI x) := ⟨_, rfl⟩
        rw [← hD] at HR
        have HD := Lib.hid hD
        have HXX : ∃ y, Hid (y = x) := ⟨x, Lib.hid rfl⟩
        obtain ⟨xx, HXX⟩ := HXX
        clear hgo hk0 hl hr hrw hox HK hk hk4 hm1 hsz hown hD
        obtain ⟨xa, xo, a, b', c⟩ := x
        simp only at hins HW HS HNU HR
        unfold Ins.val at HNU HR
        simp only at HNU HR
        obtain ⟨c0, c1, c2, c3, c4⟩ := hins
        go_wp2_with fail
        refine (HW.out _).mono ?_
        rintro e w1 ⟨v1, rfl, ho1, hb1⟩
        obtain ⟨av, cv, hv⟩ := own_shape ho1
        subst hv
        have HX1 := Lib.hid ((G.Blk.new wr 55 #[.int .i64 xa, .int .u8 xo, .int .i64 a, .int .i64 b', .int .i64 c]).below hb1 (by simp))
        have HB1 := Lib.hid (Bl.tr (Bl.al (Below.refl _ wr) _) hb1)
        have HO1 := Lib.hid ho1
        have HV1 := Lib.hid (Bl.own HOWN.out HB1.out)
        obtain ⟨X, hX⟩ : ∃ X, X = wr.heap.size := ⟨_, rfl⟩
        rw [← hX] at HX1 ⊢
        have HXE := Lib.hid hX
        have hx0 : w1.cell? ⟨X, 0, none⟩ = some (.int .i64 xa) := HX1.out.cell 0
        have hx1 : w1.cell? ⟨X, 1, none⟩ = some (.int .u8 xo) := HX1.out.cell 1
        have hx2 : w1.cell? ⟨X, 2, none⟩ = some (.int .i64 a) := HX1.out.cell 2
        have hx3 : w1.cell? ⟨X, 3, none⟩ = some (.int .i64 b') := HX1.out.cell 3
        have hx4 : w1.cell? ⟨X, 4, none⟩ = some (.int .i64 c) := HX1.out.cell 4
        clear c0 c1 c2 c3 c4 hb1 ho1 hX
        by_cases hat : xa = (m : Int)
        · subst hat
          go_wp2_with fail
          refine (HR.out _).mono ?_
          rintro e w2 ⟨rfl, hb2⟩
          have HX2 := Lib.hid (HX1.out.below hb2 HX1.out.lt)
          have HB2 := Lib.hid (Bl.tr HB1.out hb2)
          have HO2 := Lib.hid (Bl.own HO1.out hb2)
          have HV2 := Lib.hid (Bl.own HV1.out hb2)
          have hy0 : w2.cell? ⟨X, 0, none⟩ = some (.int .i64 m) := HX2.out.cell 0
          have hy1 : w2.cell? ⟨X, 1, none⟩ = some (.int .u8 xo) := HX2.out.cell 1
          have hy2 : w2.cell? ⟨X, 2, none⟩ = some (.int .i64 a) := HX2.out.cell 2
          have hy3 : w2.cell? ⟨X, 3, none⟩ = some (.int .i64 b') := HX2.out.cell 3
          have hy4 : w2.cell? ⟨X, 4, none⟩ = some (.int .i64 c) := HX2.out.cell 4
          clear hx0 hx1 hx2 hx3 hx4 hb2
          by_cases hri : RightI ⟨m, xo, a, b', c⟩
          · have hDt : D = true := by rw [HD.out]; exact decide_eq_true hri
            subst hDt
            have HRG := Lib.hid hri
            clear hri
            go_wp2_with fail
            refine (HS.out _).mono ?_
            rintro e w3 ⟨rfl, hb3⟩
            have HX3 := Lib.hid (HX2.out.below hb3 HX2.out.lt)
            have HB3 := Lib.hid (Bl.tr HB2.out hb3)
            have HO3 := Lib.hid (Bl.own HO2.out hb3)
            have HV3 := Lib.hid (Bl.own HV2.out hb3)
            have hx0 : w3.cell? ⟨X, 0, none⟩ = some (.int .i64 m) := HX3.out.cell 0
            have hx1 : w3.cell? ⟨X, 1, none⟩ = some (.int .u8 xo) := HX3.out.cell 1
            have hx2 : w3.cell? ⟨X, 2, none⟩ = some (.int .i64 a) := HX3.out.cell 2
            have hx3 : w3.cell? ⟨X, 3, none⟩ = some (.int .i64 b') := HX3.out.cell 3
            have hx4 : w3.cell? ⟨X, 4, none⟩ = some (.int .i64 c) := HX3.out.cell 4
            clear hy0 hy1 hy2 hy3 hy4 hb3
            by_cases hlim : 65535 < (m : Int) + sz
            · have HLIM := Lib.hid hlim
              go_wp2_with fail
              go_ret3
              refine putPost_bad (i := pre.length) ?_ rfl (Bl.tr hbel HB3.out)
              have h := HGO.out
              rw [if_neg (fun h => h.elim (fun h => h HRG.out) (fun h => h rfl)), if_pos HLIM.out] at h
              exact h.symm
            · have HLIM := Lib.hid hlim
              have hm6 : (m : Int) ≤ 65535 := by omega
              have hwz : w.heap.size ≤ w3.heap.size := (Bl.tr hbel HB3.out).size
              have hX3 : X < w3.heap.size := HX3.out.lt
              go_wp2_with (at_builtin; refine wpList_append_own _ rfl (.tmp 50) (.tmp 53) 58 rfl w.heap.size 5 i0 (.int .u8 0) 1 1 Tryz.underlying58 hi hz0 hz1 hz2 rfl (by decide) _ _ _ rfl (HV3.out.alloc _) ⟨w3.heap.size, 0, none⟩ 1 1 [.int .u8 xo] rfl rfl (cells_new _ [.int .u8 xo] _ _ rfl) (u8s_one [xo]) (by unfold maxLen; omega) (by omega) (by simp; omega) ?_; intro v4 w4 hown4 hg4 _q; have hT4 := Lib.hid (((G.Touch.refl [5] w.heap.size w3).later (by omega) (Bl.al (Below.refl _ _) _)).grown (HV3.out.alloc _) hg4 (by decide) (Nat.le_refl _) (by simp; omega)); have HX4 := Lib.hid (hT4.out.blk HX3.out (by decide)); have hy0 := HX4.out.cell 0; have hy1 := HX4.out.cell 1; have hy2 := HX4.out.cell 2; have hy3 := HX4.out.cell 3; have hy4 := HX4.out.cell 4)
              refine (HNU.out _).mono ?_
              rintro e w5 ⟨v5, rfl, ho5, hb5⟩
              obtain ⟨a5, c5, hv5⟩ := own_shape ho5
              subst hv5
              obtain ⟨a4, c4', hv4⟩ := own_shape hown4
              subst hv4
              have hz5 := hb5.size
              have hz4 := hT4.out.below.size
              have HB5 := Lib.hid ((Bl.tr hbel HB3.out).trans (hT4.out.below.trans (hb5.mono (by omega))))
              have HO5 := Lib.hid (Bl.own (hT4.out.own HO3.out (by decide)) hb5)
              have HN5 := Lib.hid ho5
              have HV5 := Lib.hid (Bl.own hown4 hb5)
              have hw5 : w.heap.size ≤ w5.heap.size := by omega
              obtain ⟨ws, hws⟩ : ∃ ws, ws = widthsOf k := ⟨_, rfl⟩
              rw [← hws] at HO5 HMC HEN ⊢
              have HWS := Lib.hid hws
              obtain ⟨na, hna⟩ : ∃ na, na = numAt ⟨m, xo, a, b', c⟩ := ⟨_, rfl⟩
              have HNA := Lib.hid (show ∀ j, [a, b', c].getD j 0 = na j from fun j => by rw [hna]; rfl)
              have HRB := Lib.hid (show ∀ j, j < 3 → 0 ≤ na j ∧ na j ≤ mostOf k j from by rw [hna]; exact HRI.out.1 HRG.out)
              have HEP := Lib.hid (show ∀ q, encPart ⟨m, xo, a, b', c⟩ k (q + 1) = encPart ⟨m, xo, a, b', c⟩ k q ++ (if ws.getD q 0 = 2 then [na q / 256, na q % 256] else [na q % 256]) from fun q => by rw [hws, hna]; rfl)
              obtain ⟨ep, hep⟩ : ∃ ep, ep = encPart ⟨m, xo, a, b', c⟩ k := ⟨_, rfl⟩
              rw [← hep] at HEP HEN
              have HE0 := Lib.hid (show ep 0 = [] by rw [hep]; rfl)
              have hws3 : ws.length ≤ 3 := by rw [hws]; exact (widths_bd k).1
              have HEL := Lib.hid (show ∀ q, (ep q).length ≤ 2 * q from fun q => by
                induction q with
                | zero => rw [HE0.out]; simp
                | succ q ih => rw [HEP.out, List.length_append]; split <;> simp <;> omega)
              obtain ⟨bp, hbp⟩ : ∃ bp, bp = bytesOf pre := ⟨_, rfl⟩
              rw [← hbp] at HV5 HM
              have HBP := Lib.hid hbp
              clear ho5 hb5 hown4 hg4 hT4 HX4 hy0 hy1 hy2 hy3 hy4 hz4 hz5 hx0 hx1 hx2 hx3 hx4 hws hna hep hbp HRI
              go_wp2_with fail
              go_loopw [5, 11] (fun v j wq => ∃ q : Nat, q ≤ ws.length ∧ j = .int .i64 q ∧ G.Touch [5] w.heap.size w5 wq ∧ wq.ownsRow w.heap.size 5 1 v (m + 1 + (ep q).length) (u8s (bp ++ (xo :: ep q)))) (fun _ j _ => ws.length - (intOf j).toNat)
              case atStart => exact ⟨0, Nat.zero_le _, rfl, G.Touch.refl _ _ _, by rw [HE0.out]; have := HV5.out; simpa [u8s] using this⟩
              case round =>
                obtain ⟨q, hq, rfl, hT, hown⟩ := hrel
                have HT := Lib.hid hT
                have HOQ := Lib.hid hown
                have h0q : (0 : Int) ≤ q := by omega
                obtain ⟨aq, cq, hv⟩ := own_shape hown
                subst hv
                have hwq : w.heap.size ≤ wr.heap.size := by have := hT.below.size; omega
                have hel := HEL.out q
                clear hT hown
                by_cases hql : q < ws.length
                · have hq3 : (q : Int) < ws.length := by omega
                  refine G.own_use (HT.out.own HO5.out (by decide)) (by omega) ?_
                  intro g1 hg1
                  subst hg1
                  refine G.own_use (HT.out.own HN5.out (by decide)) (by simp) ?_
                  intro g2 hg2
                  subst hg2
                  have hc1 := i64s_cell (HT.out.own HO5.out (by decide)) hql
                  have hc2 := i64s_cell (HT.out.own HN5.out (by decide)) (j := q) (by simp; omega)
                  rw [HNA.out] at hc2
                  obtain ⟨hn0, hn1⟩ := HRB.out q (by omega)
                  have hep1 := HEP.out q
                  rcases HMC.out q hql with ⟨m1, m2⟩ | ⟨m1, m2⟩
                  · rw [m2] at hn1
                    rw [if_pos m1] at hep1
                    rw [m1] at hc1
                    have HEP1 := Lib.hid hep1
                    clear m2 hep1
                    obtain ⟨z, hz⟩ : ∃ z, z = na q := ⟨_, rfl⟩
                    have HZ := Lib.hid hz.symm
                    rw [← hz] at hc2 hn0 hn1 HEP1
                    clear hz
                    go_wp2_with (first
                      | (at_builtin; refine wpList_append_own _ rfl (.tmp 68) (.tmp 75) 58 rfl w.heap.size 5 i0 (.int .u8 0) 1 1 Tryz.underlying58 hi hz0 hz1 hz2 rfl (by decide) _ _ _ rfl (HOQ.out.alloc _) ⟨wr.heap.size, 0, none⟩ 1 1 [.int .u8 (z / 256)] rfl rfl (cells_new _ _ _ _ rfl) (u8s_one [_]) (by unfold maxLen; omega) (by omega) (by simp; omega) ?_; intro v6 w6 hown_v6 hg_v6 _q; obtain ⟨a_v6, c_v6, hv_v6⟩ := own_shape hown_v6; subst hv_v6; have HT6 := Lib.hid (((HT.out).later (by omega) (Bl.al (Below.refl _ _) _)).grown (HOQ.out.alloc _) hg_v6 (by decide) (Nat.le_refl _) (by simp; omega)); have HO_v6 := Lib.hid hown_v6; have hs_v6 : w.heap.size ≤ w6.heap.size := (by have := HT6.out.below.size; omega); have hc1_v6 := i64s_cell (HT6.out.own HO5.out (by decide)) hql; have hc2_v6 := i64s_cell (HT6.out.own HN5.out (by decide)) (j := q) (by simp; omega); rw [HNA.out] at hc2_v6; rw [m1] at hc1_v6; rw [HZ.out] at hc2_v6; clear hown_v6 hg_v6)
                      | (at_builtin; refine wpList_append_own _ rfl (.tmp 77) (.tmp 84) 58 rfl w.heap.size 5 i0 (.int .u8 0) 1 1 Tryz.underlying58 hi hz0 hz1 hz2 rfl (by decide) _ _ _ rfl (HO_v6.out.alloc _) ⟨w6.heap.size, 0, none⟩ 1 1 [.int .u8 (z % 256)] rfl rfl (cells_new _ _ _ _ rfl) (u8s_one [_]) (by unfold maxLen; omega) (by omega) (by simp; omega) ?_; intro v7 w7 hown_v7 hg_v7 _q; obtain ⟨a_v7, c_v7, hv_v7⟩ := own_shape hown_v7; subst hv_v7; have HT7 := Lib.hid (((HT6.out).later (by omega) (Bl.al (Below.refl _ _) _)).grown (HO_v6.out.alloc _) hg_v7 (by decide) (Nat.le_refl _) (by simp; omega)); have HO_v7 := Lib.hid hown_v7; have hs_v7 : w.heap.size ≤ w7.heap.size := (by have := HT7.out.below.size; omega); have hc1_v7 := i64s_cell (HT7.out.own HO5.out (by decide)) hql; have hc2_v7 := i64s_cell (HT7.out.own HN5.out (by decide)) (j := q) (by simp; omega); rw [HNA.out] at hc2_v7; rw [m1] at hc1_v7; rw [HZ.out] at hc2_v7; clear hown_v7 hg_v7))
                    go_roundw
                    case rel =>
                      have e1 : (ep (q + 1)).length = (ep q).length + 2 := by rw [HEP1.out]; simp
                      refine ⟨q + 1, by omega, by go_num, HT7.out, ?_⟩
                      rw [e1, HEP1.out]
                      have := HO_v7.out
                      simpa [u8s, Nat.add_assoc] using this
                    case measure => simp [intOf] <;> omega
                  · obtain ⟨wj, hwj⟩ : ∃ wj, wj = ws.getD q 0 := ⟨_, rfl⟩
                    rw [m2] at hn1
                    have hne : ¬ ws.getD q 0 = 2 := by simpa using m1
                    rw [if_neg hne] at hep1
                    rw [← hwj] at hc1 m1
                    have HEP1 := Lib.hid hep1
                    have HWJ := Lib.hid hwj.symm
                    clear m2 hep1 hne hwj
                    obtain ⟨z, hz⟩ : ∃ z, z = na q := ⟨_, rfl⟩
                    have HZ := Lib.hid hz.symm
                    rw [← hz] at hc2 hn0 hn1 HEP1
                    clear hz
                    go_wp2_with (at_builtin; refine wpList_append_own _ rfl (.tmp 77) (.tmp 84) 58 rfl w.heap.size 5 i0 (.int .u8 0) 1 1 Tryz.underlying58 hi hz0 hz1 hz2 rfl (by decide) _ _ _ rfl (HOQ.out.alloc _) ⟨wr.heap.size, 0, none⟩ 1 1 [.int .u8 (z % 256)] rfl rfl (cells_new _ _ _ _ rfl) (u8s_one [_]) (by unfold maxLen; omega) (by omega) (by simp; omega) ?_; intro v7 w7 hown_v7 hg_v7 _q; obtain ⟨a_v7, c_v7, hv_v7⟩ := own_shape hown_v7; subst hv_v7; have HT7 := Lib.hid (((HT.out).later (by omega) (Bl.al (Below.refl _ _) _)).grown (HOQ.out.alloc _) hg_v7 (by decide) (Nat.le_refl _) (by simp; omega)); have HO_v7 := Lib.hid hown_v7; have hs_v7 : w.heap.size ≤ w7.heap.size := (by have := HT7.out.below.size; omega); have hc1_v7 := i64s_cell (HT7.out.own HO5.out (by decide)) hql; have hc2_v7 := i64s_cell (HT7.out.own HN5.out (by decide)) (j := q) (by simp; omega); rw [HNA.out] at hc2_v7; rw [HZ.out] at hc2_v7; clear hown_v7 hg_v7)
                    go_roundw
                    case rel =>
                      have e1 : (ep (q + 1)).length = (ep q).length + 1 := by rw [HEP1.out]; simp
                      refine ⟨q + 1, by omega, by go_num, HT7.out, ?_⟩
                      rw [e1, HEP1.out]
                      have := HO_v7.out
                      simpa [u8s, Nat.add_assoc] using this
                    case measure => simp [intOf] <;> omega
                · have hqe : q = ws.length := by omega
                  have hq3 : ¬ (q : Int) < ws.length := by omega
                  have HQE := Lib.hid hqe
                  clear hqe
                  go_wp2
                  go_roundw
                  case rel =>
                    have h1 := HEN.out HRG.out
                    rw [← HQE.out] at h1
                    have h2 : bytesOf (pre ++ [⟨m, xo, a, b', c⟩]) = bp ++ (xo :: ep q) := by rw [bytesOf_snoc, h1, HBP.out]
                    have h3 : (bytesOf (pre ++ [⟨m, xo, a, b', c⟩])).length = m + 1 + (ep q).length := by
                      rw [h2, List.length_append, List.length_cons, HM.out]
                      omega
                    have h4 : ((m + 1 + (ep q).length : Nat) : Int) = m + sz := by
                      have := (HLEN.out HRG.out).1
                      unfold encOf at this
                      rw [← h1] at this
                      simp only [List.length_cons] at this
                      rw [HSZ.out, ← this]
                      omega
                    refine ⟨pre ++ [⟨m, xo, a, b', c⟩], suf, by rw [HL.out]; simp, by simp, HB5.out.trans HT.out.below, ?_, by rw [h3]; have := HLIM.out; omega, by rw [h3, h2]; exact HOQ.out⟩
                    have h := HGO.out
                    rw [if_neg (fun h => h.elim (fun h => h HRG.out) (fun h => h rfl)), if_neg (by have := HLIM.out; omega)] at h
                    rw [List.length_append, bytesOf_snoc]
                    exact h
                  case measure => simp [intOf] <;> omega
          · have hDt : D = false := by rw [HD.out]; exact decide_eq_false hri
            subst hDt
            have HRG := Lib.hid hri
            clear hri
            go_wp2_with fail
            go_ret3
            refine putPost_bad (i := pre.length) ?_ rfl (Bl.tr hbel HB2.out)
            have h := HGO.out
            rw [if_pos (.inl HRG.out)] at h
            exact h.symm
        · have hat1 : (xa != (m : Int)) = true := by simpa using hat
          have HAT := Lib.hid hat
          clear hat
          go_wp2_with fail
          go_ret3
          refine putPost_bad (i := pre.length) ?_ rfl (Bl.tr hbel HB1.out)
          have h := HGO.out
          rw [if_pos (.inr HAT.out)] at h
          exact h.symm
end Go.Proofs.YtfldicaaaadgaaaGreatDoor.Code

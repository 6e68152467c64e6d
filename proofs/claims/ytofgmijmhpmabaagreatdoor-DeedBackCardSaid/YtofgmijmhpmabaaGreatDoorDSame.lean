/- The contract of the laws' sameCards: of states with the same cards, each in one zone, it says yes. -/
import Derived.Test.YtofgmijmhpmabaaGreatDoorDLawM
import Derived.Test.YtofgmijmhpmabaaGreatDoorDDeeds
import Derived.Test.YtofgmijmhpmabaaGreatDoorDCheckW
namespace Go.Proofs.YtofgmijmhpmabaaGreatDoor.D
open Go Go.RowKit
set_option linter.unusedVariables false
set_option linter.unusedSimpArgs false
def seenL (m : Nat) (E : List Int) : List Value := (List.range m).map fun i => Value.bool (decide (Int.ofNat i ∈ E))
theorem seenL_length (m : Nat) (E : List Int) : (seenL m E).length = m := by simp [seenL]
theorem seenL_nil (m : Nat) : List.replicate m (Value.bool false) = seenL m [] := by
  refine List.ext_getElem (by simp [seenL]) fun i h1 h2 => ?_
  simp [seenL]
theorem seenL_at {m : Nat} {E : List Int} {c : Nat} (h : c < m) : (seenL m E)[c]? = some (.bool (decide ((c : Int) ∈ E))) := by
  simp [seenL, h]
theorem seenL_set {m : Nat} {E : List Int} {c : Nat} (h : c < m) : (seenL m E).set c (.bool true) = seenL m (E ++ [(c : Int)]) := by
  refine List.ext_getElem (by simp [seenL]) fun i h1 h2 => ?_
  rw [List.getElem_set]
  by_cases e : c = i
  · subst e
    simp [seenL]
  · have h3 : ¬ ((i : Int) = (c : Int)) := by omega
    simp only [seenL, if_neg e, List.getElem_map, List.getElem_range, List.mem_append, List.mem_singleton, Value.bool.injEq, decide_eq_decide, Int.ofNat_eq_natCast]
    constructor
    · exact .inl
    · rintro (h | h)
      · exact h
      · exact absurd h h3
theorem infoBool : (Tryz.prog.info? 4).map (fun i => (i.zero, i.size, i.bytes)) = some (some (.bool false), 1, 1) := by kernel_rfl
structure SeI (w wr : World) (m : Nat) (E : List Int) : Prop where
  bl : Below w.heap.size w wr
  own : wr.ownsRow w.heap.size 4 1 (.slice (some ⟨w.heap.size, 0, none⟩) m m) m (seenL m E)
theorem SeI.put {w wr : World} {m c : Nat} {E : List Int} (h : SeI w wr m E) (hc : c < m) : SeI w (wr.setCell ⟨w.heap.size, c, none⟩ (.bool true)) m (E ++ [(c : Int)]) := by
  have hst := h.own.stored c (.bool true)
  rw [seenL_set hc] at hst
  exact ⟨G.bl_set h.bl (Nat.le_refl _) _, hst.1⟩
set_option maxRecDepth 100000 in
set_option maxHeartbeats 8000000 in
theorem sameCards_any (x y : SV) (s t : St) (w : World) (h : RdSt w x s) (k : RdSt w y t) (hm : May t) (hk : SameKO s t) : Calls Tryz.prog 30 #[x.val s, y.val t] w (BoolPost true w) := by
  obtain ⟨i0, hi, hz0, hz1, hz2⟩ := info_parts infoBool
  have HR := Lib.hid h
  have HQ := Lib.hid k
  have HM := Lib.hid hm
  have HK := Lib.hid hk
  have hm256 := hm.m256
  have hz16 : t.zones.length ≤ 16 := by have := hm.zn; have := hm.n4; omega
  have HZL := Lib.hid (fun i => may_zone hm i)
  have HX := Lib.hid (show x.val s = .agg #[.slice x.pa s.players.length x.pc, .slice x.ca s.cards.length x.cc, .slice x.za s.zones.length x.zc, .int .i32 s.turn, .int .i64 s.whose, .int .i8 s.fin, .int .i64 s.winner] from rfl)
  have HY := Lib.hid (show y.val t = .agg #[.slice y.pa t.players.length y.pc, .slice y.ca t.cards.length y.cc, .slice y.za t.zones.length y.zc, .int .i32 t.turn, .int .i64 t.whose, .int .i8 t.fin, .int .i64 t.winner] from rfl)
  rw [HX.out, HY.out]
  rw [← hk.1, ← hk.2.1]
  obtain ⟨m, hmm⟩ : ∃ m, m = t.cards.length := ⟨_, rfl⟩
  obtain ⟨l, hll⟩ : ∃ l, l = t.zones.length := ⟨_, rfl⟩
  obtain ⟨np, hnp⟩ : ∃ n, n = s.players.length := ⟨_, rfl⟩
  obtain ⟨nq, hnq⟩ : ∃ n, n = t.players.length := ⟨_, rfl⟩
  rw [← hmm, ← hll, ← hnp, ← hnq]
  rw [← hmm] at hm256
  rw [← hll] at hz16
  have HMM := Lib.hid hmm
  have HLL := Lib.hid hll
  generalize s.turn = turn
  generalize s.whose = whose
  generalize s.fin = fin
  generalize s.winner = win
  generalize t.turn = turn2
  generalize t.whose = whose2
  generalize t.fin = fin2
  generalize t.winner = win2
  have HSC := Lib.hid (show m = s.cards.length by rw [hmm]; exact hk.1)
  clear h k hm hk hmm hll hnp hnq HX HY
  have H0 := two_new w 27 #[.slice x.pa np x.pc, .slice x.ca m x.cc, .slice x.za l x.zc, .int .i32 turn, .int .i64 whose, .int .i8 fin, .int .i64 win] #[.slice y.pa nq y.pc, .slice y.ca m y.cc, .slice y.za l y.zc, .int .i32 turn2, .int .i64 whose2, .int .i8 fin2, .int .i64 win2]
  generalize x.pa = pa at H0 ⊢
  generalize x.pc = pc at H0 ⊢
  generalize x.zc = zc at H0 ⊢
  generalize x.za = xza at H0 ⊢
  generalize y.pa = qa at H0 ⊢
  generalize y.pc = qc at H0 ⊢
  obtain ⟨ca, hca⟩ : ∃ q, q = x.ca := ⟨_, rfl⟩
  obtain ⟨cc, hcc⟩ : ∃ q, q = x.cc := ⟨_, rfl⟩
  obtain ⟨da, hda⟩ : ∃ q, q = y.ca := ⟨_, rfl⟩
  obtain ⟨dc, hdc⟩ : ∃ q, q = y.cc := ⟨_, rfl⟩
  obtain ⟨za, hza⟩ : ∃ q, q = y.za := ⟨_, rfl⟩
  obtain ⟨yc, hyc⟩ : ∃ q, q = y.zc := ⟨_, rfl⟩
  rw [← hca, ← hcc, ← hda, ← hdc, ← hza, ← hyc] at H0 ⊢
  have HCA := Lib.hid hca
  have HDA := Lib.hid hda
  have HZA := Lib.hid hza
  clear hca hcc hda hdc hza hyc
  go_enter Tryz.func30, Tryz.ntmps30
  go_upto_region 1 with (fail)
  obtain ⟨w0, hw0⟩ : ∃ w0, w0 = (w.alloc (.cells #[.slice pa np pc, .slice ca m cc, .slice xza l zc, .int .i32 turn, .int .i64 whose, .int .i8 fin, .int .i64 win] 27)).alloc (.cells #[.slice qa nq qc, .slice da m dc, .slice za l yc, .int .i32 turn2, .int .i64 whose2, .int .i8 fin2, .int .i64 win2] 27) := ⟨_, rfl⟩
  rw [← hw0] at H0 ⊢
  clear hw0
  obtain ⟨hb0, hb1, hbl0⟩ := H0
  have HBL0 := Lib.hid hbl0
  obtain ⟨g, hg⟩ : ∃ g, g = w.heap.size := ⟨_, rfl⟩
  rw [← hg] at hb0 hb1 ⊢
  have HS0 := Lib.hid hb0
  have HT0 := Lib.hid hb1
  have c1 := hb0.cell 1
  have c2 := hb0.cell 2
  have d1 := hb1.cell 1
  have d2 := hb1.cell 2
  have l0 := hb0.lt
  have l1 := hb1.lt
  clear hb0 hb1 hbl0 hg
  go_wp2_with (refine wpList_make_full _ rfl _ _ 111 rfl w0.heap.size 4 i0 _ 1 Tryz.underlying111 hi hz0 hz1 .i64 .i64 _ _ m rfl rfl rfl rfl (by rw [hz2]; omega) (by unfold maxLen; omega) (Nat.le_refl _) ?_; intro w1 ho1 hg1)
  have hz : (madeCells (Value.bool false).cells (m * 1)).toList = List.replicate m (.bool false) := by
    rw [show (Value.bool false).cells = #[.bool false] from rfl, toList_madeCells_one, Nat.mul_one]
  rw [hz, seenL_nil] at ho1
  have HI1 := Lib.hid (show SeI w0 w1 m [] from ⟨(Below.refl _ _).grown hg1 (Nat.le_refl _) (by simp), ho1⟩)
  clear hz ho1 hg1
  go_wp2_with fail
  clear c1 c2 d1 d2
  go_loopw [6, 7] (fun en i wr => ∃ (q : Nat) (E : List Int), q ≤ l ∧ i = .int .i64 q ∧ en = .int .i64 (E.length : Nat) ∧ E = (t.zones.take q).flatten ∧ SeI w0 wr m E) (fun _ i _ => l - (intOf i).toNat)
  case atStart => exact ⟨0, [], Nat.zero_le _, rfl, rfl, rfl, HI1.out⟩
  case round =>
    obtain ⟨q, E, hq, rfl, rfl, hE, hst⟩ := hrel
    have HE := Lib.hid hE
    have HST := Lib.hid hst
    have hq0 : (0 : Int) ≤ q := by omega
    have HT := Lib.hid (HT0.out.below hst.bl HT0.out.lt)
    have d2 := HT.out.cell 2
    have l2 := HT.out.lt
    clear hE hst
    by_cases hlt : q < l
    · have hqI : (q : Int) < l := by omega
      obtain ⟨Z, hZ⟩ : ∃ Z, Z = t.zones.getD q [] := ⟨_, rfl⟩
      obtain ⟨lz, hlz⟩ : ∃ lz, lz = Z.length := ⟨_, rfl⟩
      have hl := HZL.out q
      rw [← hZ, ← hlz] at hl
      obtain ⟨ra, rk, hrv, hrr0⟩ := HQ.out.rows q (by rw [← HLL.out]; exact hlt)
      rw [← hZ, ← hlz] at hrv hrr0
      have HRV := Lib.hid hrv
      have HRR := Lib.hid hrr0
      have HZZ := Lib.hid hZ
      have HLZ := Lib.hid hlz
      clear hrv hrr0 hZ hlz
      go_upto_region 8 with (fail)
      go_wp2_with fail
      obtain ⟨wo, hwo⟩ : ∃ wo : World, wo = wr := ⟨_, rfl⟩
      subst hwo
      clear d2 l2
      go_loopw [6, 8] (fun en i wr => ∃ (j : Nat) (F : List Int), j ≤ lz ∧ i = .int .i64 j ∧ en = .int .i64 (F.length : Nat) ∧ F = E ++ Z.take j ∧ SeI w0 wr m F) (fun _ i _ => lz - (intOf i).toNat)
      case atStart => exact ⟨0, E, Nat.zero_le _, rfl, rfl, by simp, HST.out⟩
      case round =>
        obtain ⟨j, F, hj, rfl, rfl, hF, hst⟩ := hrel
        have HF := Lib.hid hF
        have HSF := Lib.hid hst
        have hj0 : (0 : Int) ≤ j := by omega
        have HTF := Lib.hid (HT0.out.below hst.bl HT0.out.lt)
        have HBF := Lib.hid (show Below w.heap.size w wr from G.bl_trans HBL0.out hst.bl)
        have d2 := HTF.out.cell 2
        have l2 := HTF.out.lt
        obtain ⟨bz, oz, hza, hcr⟩ := rows_at (i := q) (HQ.out.z.below HBF.out) (by rw [← HLL.out]; exact hlt)
        rw [HRV.out] at hcr
        rw [← HZA.out] at hza
        subst hza
        have hbs := World.block_lt_of_cell? _ _ hcr
        clear hF hst
        by_cases hjl : j < lz
        · have hjI : (j : Int) < lz := by omega
          obtain ⟨bc, oc, rfl, hrd⟩ := (HRR.out.below HBF.out).2 (by omega)
          have hcc := i64_at hrd (k := j) (by rw [← HLZ.out]; exact hjl)
          have hmem : Z.getD j 0 ∈ t.zones.flatten := List.mem_flatten.2 ⟨Z, by rw [HZZ.out]; exact mem_getD (by rw [← HLL.out]; exact hlt), mem_getD (by rw [← HLZ.out]; exact hjl)⟩
          obtain ⟨r0, r1⟩ := HM.out.rng _ hmem
          rw [← HMM.out] at r1
          obtain ⟨cn, hcn⟩ := Int.eq_ofNat_of_zero_le r0
          have HCN := Lib.hid hcn
          rw [hcn] at hcc r1
          have c2I : (cn : Int) < m := by omega
          have c2N : cn < m := by omega
          have HSUB := Lib.hid (show (F ++ [(cn : Int)]).Sublist t.zones.flatten by
            have h := flat_upto (zs := t.zones) (q := q) (j := j + 1) (by rw [← HLL.out]; exact hlt)
            rw [← HE.out, ← HZZ.out, take_next (by rw [← HLZ.out]; exact hjl), ← List.append_assoc, ← HF.out, HCN.out] at h
            exact h)
          have HNI := Lib.hid (show (cn : Int) ∉ F from fun h => by
            have h1 := HM.out.nd.sublist HSUB.out
            rw [List.nodup_append] at h1
            exact h1.2.2 _ h _ (by simp) rfl)
          have hFl : F.length ≤ 256 := by
            have h1 := HSUB.out.length_le
            rw [HM.out.all, ← HMM.out, List.length_append] at h1
            simp at h1
            omega
          have hsc := (HSF.out.own.cellAt cn (by omega)).trans (seenL_at c2N)
          rw [decide_eq_false HNI.out] at hsc
          have hsf := HSF.out.own.frozenAt cn
          have hsl := World.block_lt_of_cell? _ _ hcc
          have hsl2 := World.block_lt_of_cell? _ _ hsc
          have HNX := Lib.hid (HSF.out.put c2N)
          have hFl1 : ((F.length : Nat) : Int) + 1 ≤ 257 := by omega
          clear hrd hmem r0 r1 hcn
          go_wp2_with fail
          go_roundw
          case rel => exact ⟨j + 1, F ++ [(cn : Int)], by omega, by go_num, by rw [List.length_append]; go_num, by rw [HF.out, take_next (by rw [← HLZ.out]; exact hjl), ← HCN.out, List.append_assoc], HNX.out⟩
          case measure => simp [intOf]; omega
        · obtain rfl : lz = j := by omega
          have hjI : ¬ (lz : Int) < lz := by omega
          have HEN := Lib.hid (show F = (t.zones.take (q + 1)).flatten by
            rw [HF.out, flat_next (by rw [← HLL.out]; exact hlt), ← HE.out, ← HZZ.out, List.take_of_length_le (by rw [← HLZ.out]; omega)])
          go_wp2_with fail
          go_roundw
          case rel => exact ⟨q + 1, F, by omega, by go_num, rfl, HEN.out, HSF.out⟩
          case measure => simp [intOf]; omega
    · obtain rfl : l = q := by omega
      have hqI : ¬ (l : Int) < l := by omega
      have HLEN := Lib.hid (show E.length = m by
        rw [HE.out, List.take_of_length_le (by rw [← HLL.out]; exact Nat.le_refl _), HM.out.all, HMM.out])
      go_wp2_with fail
      obtain ⟨wa, hwa⟩ : ∃ wa : World, wa = wr := ⟨_, rfl⟩
      subst hwa
      have HSA := Lib.hid (HS0.out.below HST.out.bl HS0.out.lt)
      have HTA := Lib.hid (HT0.out.below HST.out.bl HT0.out.lt)
      have c1 := HSA.out.cell 1
      have d1 := HTA.out.cell 1
      have l3 := HSA.out.lt
      have HBA := Lib.hid (show Below w.heap.size w wa from G.bl_trans HBL0.out HST.out.bl)
      obtain ⟨el, hel⟩ : ∃ el, el = E.length := ⟨_, rfl⟩
      rw [← hel]
      have HELM := Lib.hid (show el = m by rw [hel]; exact HLEN.out)
      clear d2 l2 hel
      go_loopw [10] (fun i wr => ∃ k : Nat, k ≤ m ∧ i = .int .i64 k ∧ ∃ p, wr = wa.drewN p) (fun i _ => m - (intOf i).toNat)
      case atStart => exact ⟨0, Nat.zero_le _, rfl, 0, rfl⟩
      case round =>
        obtain ⟨k, hk, rfl, p, rfl⟩ := hrel
        have hk0 : (0 : Int) ≤ k := by omega
        by_cases hlt2 : k < m
        · have hkI : (k : Int) < m := by omega
          obtain ⟨b, off, hA, hrd⟩ := (HR.out.c.below HBA.out).2 (by rw [← HSC.out]; omega)
          obtain ⟨b2, off2, hA2, hrd2⟩ := (HQ.out.c.below HBA.out).2 (by rw [← HMM.out]; omega)
          rw [← HCA.out] at hA
          rw [← HDA.out] at hA2
          subst hA hA2
          obtain ⟨e1, e2⟩ := HK.out.2.2 k (by rw [← HSC.out]; exact hlt2)
          obtain ⟨a0, a1, _⟩ := cd_at hrd (k := k) (by rw [← HSC.out]; exact hlt2) rfl
          obtain ⟨f0, f1, _⟩ := cd_at hrd2 (k := k) (by rw [← HMM.out]; exact hlt2) rfl
          rw [e1] at f0
          rw [e2] at f1
          clear hrd hrd2 e1 e2
          generalize (s.cards.getD k zeroCd).kind = kd at *
          generalize (s.cards.getD k zeroCd).owner = ow at *
          go_wp2
          go_quiet (fail)
          go_wp2
          go_roundw
          case rel => exact ⟨k + 1, by omega, by go_num, by first | exact ⟨_, rfl⟩ | exact ⟨_, World.drewN_drewN ..⟩⟩
          case measure => simp [intOf]; omega
        · obtain rfl : m = k := by omega
          have hkI : ¬ (m : Int) < m := by omega
          have hel2 : ((el : Int) == m) = true := by rw [HELM.out]; simp
          go_wp2
          go_ret
          exact ⟨rfl, G.bl_drewN HBA.out _⟩
end Go.Proofs.YtofgmijmhpmabaaGreatDoor.D

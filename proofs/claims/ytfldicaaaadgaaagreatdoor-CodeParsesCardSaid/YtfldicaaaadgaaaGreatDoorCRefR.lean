/- The contracts of the reference's rows and parts: a text cut at a byte. -/
import Derived.Test.YtfldicaaaadgaaaGreatDoorCSplitR
import Derived.Test.YtfldicaaaadgaaaGreatDoorCForms
import Derived.Test.YtfldicaaaadgaaaGreatDoorWords
import Derived.Laws.AppendOwn
import Derived.OwnWalk
import Derived.Deep.LoopGhost
import Derived.Lib.Hide
import Derived.Test.YtfldicaaaadgaaaGreatDoorCRefPut
import Derived.Test.YtfldicaaaadgaaaGreatDoorCRow
namespace Go.Proofs.YtfldicaaaadgaaaGreatDoor.Code
section
open Go Go.RowKit
set_option linter.unusedVariables false
set_option linter.unusedSimpArgs false
def RNumP (s : List UInt8) (w : World) (e : Ending) (w' : World) : Prop := ∃ n ok, e = .returned (.tuple #[.int .i64 n, .bool ok]) ∧ w' = w ∧ (match numL s with | none => ok = false | some m => ok = true ∧ n = m)
theorem rnumP_bad {s : List UInt8} {w : World} {n : Int} (h : s = [] ∨ s.all isDig = false ∨ (1 < s.length ∧ s.headD 0 = 48) ∨ most63 < valL 0 s) : RNumP s w (.returned (.tuple #[.int .i64 n, .bool false])) w := ⟨n, false, rfl, rfl, by rw [numL_none h]⟩
theorem rnumP_ok {s : List UInt8} {w : World} {n : Nat} (hr : Reading s s.length n) (h0 : s ≠ []) (h2 : ¬ (1 < s.length ∧ s.headD 0 = 48)) : RNumP s w (.returned (.tuple #[.int .i64 n, .bool true])) w := by
  have h := hr.done
  refine ⟨n, true, rfl, rfl, ?_⟩
  rw [numL_some h0 h.1 h2 (by rw [h.2]; exact hr.most), h.2]
  exact ⟨rfl, rfl⟩
theorem byte_at {s : ByteArray} {sl : List UInt8} (h : sl = s.data.toList) {k : Nat} (hk : k < s.size) : s[k] = sl.getD k 0 := by
  subst h
  have hk2 : k < s.data.toList.length := by simpa using hk
  rw [List.getD_eq_getElem?_getD, List.getElem?_eq_getElem hk2]
  rfl
set_option maxRecDepth 100000 in
set_option maxHeartbeats 4000000 in
theorem refNumber_any (s : ByteArray) (w : World) (hs : s.size ≤ 16777216) : Calls Tryz.prog 53 #[.string s] w (RNumP s.data.toList w) := by
  have hsl : s.data.toList.length = s.size := by simp
  obtain ⟨sl, hsl2⟩ : ∃ sl, sl = s.data.toList := ⟨_, rfl⟩
  have HSL := Lib.hid hsl2
  rw [← hsl2] at hsl ⊢
  have HLN := Lib.hid hsl
  clear hsl hsl2
  have hsI : (s.size : Int) ≤ 16777216 := by omega
  go_enter Tryz.func53, Tryz.ntmps53
  by_cases h0 : s.size = 0
  · have h0I : (s.size : Int) = 0 := by omega
    have HZ := Lib.hid h0
    go_wp2_with fail
    go_ret2
    exact rnumP_bad (.inl (List.eq_nil_of_length_eq_zero (by rw [HLN.out, HZ.out])))
  · have h0I : 0 < (s.size : Int) := by omega
    have HZ := Lib.hid h0
    by_cases h1 : s.size = 1
    · have h1I : (s.size : Int) = 1 := by omega
      have HNO := Lib.hid (show ¬ (1 < sl.length ∧ sl.headD 0 = 48) from fun h => by have := h.1; rw [HLN.out] at this; omega)
      clear h1
      go_wp2_with fail
      go_loopw [4, 5] (fun n i wr => ∃ (k m : Nat), i = .int .i64 k ∧ n = .int .i64 m ∧ wr = w ∧ Reading sl k m) (fun _ i _ => s.size - (intOf i).toNat)
      case atStart => exact ⟨0, 0, rfl, rfl, rfl, Reading.start sl⟩
      case round =>
        obtain ⟨k, m, rfl, rfl, rfl, hrd⟩ := hrel
        have HRD := Lib.hid hrd
        have hk := hrd.le
        have hm := hrd.most
        rw [HLN.out] at hk
        rw [show most63 = 9223372036854775807 from rfl] at hm
        clear hrd
        by_cases hks : k < s.size
        · have hkI : (k : Int) < s.size := by omega
          have HKS := Lib.hid hks
          have HB := Lib.hid (byte_at HSL.out hks)
          have hb256 : s[k].toNat < 256 := s[k].toNat_lt
          by_cases hd : 48 ≤ s[k].toNat ∧ s[k].toNat ≤ 57
          · obtain ⟨hd1, hd2⟩ := hd
            have HD := Lib.hid (show isDig (sl.getD k 0) = true from by rw [← HB.out]; exact decide_eq_true ⟨hd1, hd2⟩)
            by_cases hov : most63 < 10 * m + (s[k].toNat - 48)
            · have HOV := Lib.hid (HRD.out.over (by rw [HLN.out]; exact hks) (by rw [← HB.out]; exact hov))
              rw [show most63 = 9223372036854775807 from rfl] at hov
              have hovI : (9223372036854775807 - ((s[k].toNat : Int) - 48)) / 10 < (m : Int) := by omega
              clear hov
              go_wp2_with fail
              go_ret2
              exact rnumP_bad (.inr (.inr (.inr HOV.out)))
            · have HST := Lib.hid (HRD.out.step (by rw [HLN.out]; exact hks) HD.out (by rw [← HB.out]; omega))
              rw [show most63 = 9223372036854775807 from rfl] at hov
              have hovI : (m : Int) ≤ (9223372036854775807 - ((s[k].toNat : Int) - 48)) / 10 := by omega
              have hov2 : 10 * (m : Int) + ((s[k].toNat : Int) - 48) ≤ 9223372036854775807 := by omega
              have HNE := Lib.hid (show 10 * (m : Int) + ((s[k].toNat : Int) - 48) = ((10 * m + ((sl.getD k 0).toNat - 48) : Nat) : Int) from by rw [← HB.out]; omega)
              clear hov
              go_wp2_with fail
              refine ⟨⟨k + 1, _, by simp, ?_, trivial, HST.out⟩, ?_⟩
              · exact congrArg (Value.int .i64) HNE.out
              · have := HKS.out
                simp [intOf]
                omega
          · have HND := Lib.hid (show isDig (sl.getD k 0) = false from by rw [← HB.out]; exact decide_eq_false hd)
            by_cases hd1 : s[k].toNat < 48
            · go_wp2_with fail
              go_ret2
              exact rnumP_bad (.inr (.inl (notDig_at (by rw [HLN.out]; exact HKS.out) HND.out)))
            · have hd2 : 57 < s[k].toNat := by omega
              have hd3 : 48 ≤ s[k].toNat := by omega
              go_wp2_with fail
              go_ret2
              exact rnumP_bad (.inr (.inl (notDig_at (by rw [HLN.out]; exact HKS.out) HND.out)))
        · have hkI : (k : Int) = s.size := by omega
          have HKE := Lib.hid (show k = sl.length by rw [HLN.out]; omega)
          go_wp2_with fail
          go_ret2
          have h := HRD.out
          rw [HKE.out] at h
          exact rnumP_ok h (fun e => HZ.out (by rw [← HLN.out, e]; rfl)) HNO.out
    · have h1I : 1 < (s.size : Int) := by omega
      have h0N : 0 < s.size := by omega
      have HH := Lib.hid (show s[0] = sl.headD 0 from by rw [byte_at HSL.out h0N]; cases sl <;> rfl)
      have HL1 := Lib.hid (show 1 < sl.length by rw [HLN.out]; omega)
      by_cases h48 : s[0].toNat = 48
      · have h48I : (s[0].toNat : Int) = 48 := by omega
        go_wp2_with fail
        go_ret2
        exact rnumP_bad (.inr (.inr (.inl ⟨HL1.out, by rw [← HH.out]; exact UInt8.toNat.inj h48⟩)))
      · have h48I : ¬ (s[0].toNat : Int) = 48 := by omega
        have HNO := Lib.hid (show ¬ (1 < sl.length ∧ sl.headD 0 = 48) from fun h => h48 (by rw [HH.out, h.2]; rfl))
        clear h48 h1
        go_wp2_with fail
        · rename_i h
          exfalso
          rcases h with h | h
          · exact absurd (by simpa using h) (show ¬ (s.size : Int) = 0 by omega)
          · exact h48I (by simpa using h)
        rename_i hx Kx ax
        obtain ⟨e1, e2⟩ := hx
        simp only [e1, e2, Bool.or_self]
        clear e1 e2
        generalize s[0].toNat = z0
        go_loopw [4, 5] (fun n i wr => ∃ (k m : Nat), i = .int .i64 k ∧ n = .int .i64 m ∧ wr = w ∧ Reading sl k m) (fun _ i _ => s.size - (intOf i).toNat)
        case atStart => exact ⟨0, 0, rfl, rfl, rfl, Reading.start sl⟩
        case round =>
          obtain ⟨k, m, rfl, rfl, rfl, hrd⟩ := hrel
          have HRD := Lib.hid hrd
          have hk := hrd.le
          have hm := hrd.most
          rw [HLN.out] at hk
          rw [show most63 = 9223372036854775807 from rfl] at hm
          clear hrd
          by_cases hks : k < s.size
          · have hkI : (k : Int) < s.size := by omega
            have HKS := Lib.hid hks
            have HB := Lib.hid (byte_at HSL.out hks)
            have hb256 : s[k].toNat < 256 := s[k].toNat_lt
            by_cases hd : 48 ≤ s[k].toNat ∧ s[k].toNat ≤ 57
            · obtain ⟨hd1, hd2⟩ := hd
              have HD := Lib.hid (show isDig (sl.getD k 0) = true from by rw [← HB.out]; exact decide_eq_true ⟨hd1, hd2⟩)
              by_cases hov : most63 < 10 * m + (s[k].toNat - 48)
              · have HOV := Lib.hid (HRD.out.over (by rw [HLN.out]; exact hks) (by rw [← HB.out]; exact hov))
                rw [show most63 = 9223372036854775807 from rfl] at hov
                have hovI : (9223372036854775807 - ((s[k].toNat : Int) - 48)) / 10 < (m : Int) := by omega
                clear hov
                go_wp2_with fail
                go_ret2
                exact rnumP_bad (.inr (.inr (.inr HOV.out)))
              · have HST := Lib.hid (HRD.out.step (by rw [HLN.out]; exact hks) HD.out (by rw [← HB.out]; omega))
                rw [show most63 = 9223372036854775807 from rfl] at hov
                have hovI : (m : Int) ≤ (9223372036854775807 - ((s[k].toNat : Int) - 48)) / 10 := by omega
                have hov2 : 10 * (m : Int) + ((s[k].toNat : Int) - 48) ≤ 9223372036854775807 := by omega
                have HNE := Lib.hid (show 10 * (m : Int) + ((s[k].toNat : Int) - 48) = ((10 * m + ((sl.getD k 0).toNat - 48) : Nat) : Int) from by rw [← HB.out]; omega)
                clear hov
                go_wp2_with fail
                refine ⟨⟨k + 1, _, by simp, ?_, trivial, HST.out⟩, ?_⟩
                · exact congrArg (Value.int .i64) HNE.out
                · have := HKS.out
                  simp [intOf]
                  omega
            · have HND := Lib.hid (show isDig (sl.getD k 0) = false from by rw [← HB.out]; exact decide_eq_false hd)
              by_cases hd1 : s[k].toNat < 48
              · go_wp2_with fail
                go_ret2
                exact rnumP_bad (.inr (.inl (notDig_at (by rw [HLN.out]; exact HKS.out) HND.out)))
              · have hd2 : 57 < s[k].toNat := by omega
                have hd3 : 48 ≤ s[k].toNat := by omega
                go_wp2_with fail
                go_ret2
                exact rnumP_bad (.inr (.inl (notDig_at (by rw [HLN.out]; exact HKS.out) HND.out)))
          · have hkI : (k : Int) = s.size := by omega
            have HKE := Lib.hid (show k = sl.length by rw [HLN.out]; omega)
            go_wp2_with fail
            go_ret2
            have h := HRD.out
            rw [HKE.out] at h
            exact rnumP_ok h (fun e => HZ.out (by rw [← HLN.out, e]; rfl)) HNO.out
end
section
open Go Go.RowKit
set_option linter.unusedVariables false
set_option linter.unusedSimpArgs false
theorem infoStrP : (Tryz.prog.info? 9).map (fun i => (i.zero, i.size, i.bytes)) = some (some (.string ⟨#[]⟩), 1, 16) := by kernel_rfl
def StrsP (l : List (List UInt8)) (w : World) (e : Ending) (w' : World) : Prop := ∃ v, e = .returned v ∧ w'.ownsRow w.heap.size 9 1 v l.length (strsL l) ∧ Below w.heap.size w w'
/-- What has been cut so far, as it lies. -/
structure PtI (c : UInt8) (w wr : World) (v : Value) (sl : List UInt8) (acc : List (List UInt8)) (fr k : Nat) : Prop where
  own : wr.ownsRow w.heap.size 9 1 v acc.length (strsL acc)
  bl : Below w.heap.size w wr
  cut : k ≤ sl.length → Cutting c sl acc fr k
  fin : k = sl.length + 1 → acc = splitC c sl
  len : acc.length ≤ k
theorem PtI.start (c : UInt8) (w : World) (sl : List UInt8) : PtI c w w (.slice none 0 0) sl [] 0 0 := ⟨World.ownsRow_nil _ _ _ _, Below.refl _ _, fun _ => Cutting.start c sl, fun h => by omega, Nat.le_refl _⟩
theorem PtI.below {c : UInt8} {w wr w' : World} {v : Value} {sl : List UInt8} {acc : List (List UInt8)} {fr k : Nat} (h : PtI c w wr v sl acc fr k) (hb : Below wr.heap.size wr w') : PtI c w w' v sl acc fr k := ⟨Bl.own h.own hb, Bl.tr h.bl hb, h.cut, h.fin, h.len⟩
theorem PtI.skip {c : UInt8} {w wr : World} {v : Value} {sl : List UInt8} {acc : List (List UInt8)} {fr k : Nat} (h : PtI c w wr v sl acc fr k) (hk : k < sl.length) (hc : sl.getD k 0 ≠ c) : PtI c w wr v sl acc fr (k + 1) :=
  ⟨h.own, h.bl, fun _ => (h.cut (by omega)).skip hk hc, fun e => by omega, by have := h.len; omega⟩
/-- A piece more. -/
theorem PtI.hit {c : UInt8} {w wr w' : World} {v v' : Value} {sl : List UInt8} {acc : List (List UInt8)} {fr k : Nat} {P : ByteArray} (h : PtI c w wr v sl acc fr k) (hk : k ≤ sl.length) (hc : k < sl.length → sl.getD k 0 = c) (hP : P.data.toList = (sl.drop fr).take (k - fr))
    (ho : w'.ownsRow w.heap.size 9 1 v' (acc.length + 1) (strsL acc ++ [.string P])) (hg : wr.grownBy w' v.ownBlock) : PtI c w w' v' sl (acc ++ [(sl.drop fr).take (k - fr)]) (k + 1) (k + 1) := by
  refine ⟨?_, Bl.grown h.bl h.own hg, fun hl => (h.cut hk).hit (by omega) (hc (by omega)), fun e => ?_, by have := h.len; simp; omega⟩
  · have e : strsL (acc ++ [(sl.drop fr).take (k - fr)]) = strsL acc ++ [.string P] := by
      unfold strsL
      rw [List.map_append, ← hP]
      simp
    rw [List.length_append, e]
    exact ho
  · obtain rfl : k = sl.length := by omega
    rw [(h.cut hk).stop]
    have := (h.cut hk).le
    rw [List.take_of_length_le (by simp)]
theorem PtI.hit2 {c : UInt8} {w wr w' : World} {v v' : Value} {sl : List UInt8} {acc : List (List UInt8)} {fr k : Nat} {o : Obj} {P : ByteArray} (h : PtI c w wr v sl acc fr k) (hk : k ≤ sl.length) (hc : k < sl.length → sl.getD k 0 = c) (hP : P.data.toList = (sl.drop fr).take (k - fr))
    (ho : w'.ownsRow w.heap.size 9 1 v' (acc.length + 1) (strsL acc ++ [.string P])) (hg : (wr.alloc o).grownBy w' v.ownBlock) : PtI c w w' v' sl (acc ++ [(sl.drop fr).take (k - fr)]) (k + 1) (k + 1) :=
  (h.below (Bl.al (Below.refl _ _) o)).hit hk hc hP ho hg
theorem str_one (p : ByteArray) : ∀ u ∈ [Value.string p], u.oneCell' = true := fun u h => by rw [List.mem_singleton.1 h]; rfl
theorem ext_data (s : ByteArray) (a b : Nat) : (s.extract a b).data.toList = (s.data.toList.drop a).take (b - a) := Lib.extract_data s a b
set_option maxRecDepth 100000 in
set_option maxHeartbeats 4000000 in
theorem refParts_any (s : ByteArray) (w : World) (hs : s.size ≤ 16777216) : Calls Tryz.prog 52 #[.string s] w (StrsP (splitC 32 s.data.toList) w) := by
  obtain ⟨i0, hi, hz0, hz1, hz2⟩ := info_parts infoStrP
  have hsl : s.data.toList.length = s.size := by simp
  have HEX := Lib.hid (fun a b => ext_data s a b)
  obtain ⟨sl, hsl2⟩ : ∃ sl, sl = s.data.toList := ⟨_, rfl⟩
  have HSL := Lib.hid hsl2
  rw [← hsl2] at hsl HEX ⊢
  have HLN := Lib.hid hsl
  clear hsl hsl2
  have hsI : (s.size : Int) ≤ 16777216 := by omega
  go_enter Tryz.func52, Tryz.ntmps52
  go_wp2_with fail
  go_loopw [3, 4, 5] (fun v f i wr => ∃ (k fr : Nat) (acc : List (List UInt8)), i = .int .i64 k ∧ f = .int .i64 fr ∧ k ≤ s.size + 1 ∧ PtI 32 w wr v sl acc fr k) (fun _ _ i _ => s.size + 2 - (intOf i).toNat)
  case atStart => exact ⟨0, 0, [], rfl, rfl, Nat.zero_le _, PtI.start 32 w sl⟩
  case round =>
    obtain ⟨k, fr, acc, rfl, rfl, hk, hpt⟩ := hrel
    have HPT := Lib.hid hpt
    have hal := hpt.len
    have hwr := hpt.bl.size
    obtain ⟨av, cv, rfl⟩ := G.own_shape hpt.own
    clear hpt
    by_cases hks : k ≤ s.size
    · have hkI : (k : Int) ≤ s.size := by omega
      have hfr : fr ≤ k := (HPT.out.cut (by rw [HLN.out]; exact hks)).le
      have hfI : (fr : Int) ≤ k := by omega
      have HKS := Lib.hid hks
      have HKL := Lib.hid (show k ≤ sl.length by rw [HLN.out]; exact hks)
      by_cases hke : k = s.size
      · have HHIT := Lib.hid (show k < sl.length → sl.getD k 0 = 32 from fun h => by rw [HLN.out] at h; omega)
        have hkeI : (k : Int) = s.size := by omega
        have HXE := Lib.hid (show (s.extract fr s.size).data.toList = (sl.drop fr).take (k - fr) from by rw [HEX.out, hke])
        have HKEI := Lib.hid hkeI
        clear hke
        go_wp2_with (at_builtin; refine wpList_append_own _ rfl (.tmp 22) (.tmp 27) 63 rfl w.heap.size 9 i0 (.string ⟨#[]⟩) 1 16 Tryz.underlying63 hi hz0 hz1 hz2 rfl (by decide) _ _ _ rfl (HPT.out.own.alloc _) ⟨wr.heap.size, 0, none⟩ 1 1 [.string (s.extract fr s.size)] rfl rfl (cells_new _ [.string (s.extract fr s.size)] _ _ rfl) (str_one _) (by unfold maxLen; omega) (by omega) (by simp; omega) ?_; intro v4 w4 hown4 hg4 _q; have HN4 := Lib.hid (PtI.hit2 HPT.out HKL.out HHIT.out HXE.out hown4 hg4); clear hown4 hg4)
        refine ⟨⟨k + 1, k + 1, _, by have := HKEI.out; simp; omega, by have := HKEI.out; simp; omega, by have := HKS.out; omega, HN4.out⟩, by have := HKS.out; simp [intOf]; omega⟩
      · have hkl : k < s.size := by omega
        have HB := Lib.hid (byte_at HSL.out hkl)
        have hne : ((k : Int) == (s.size : Int)) = false := beq_eq_false_iff_ne.2 (by omega)
        by_cases h32 : s[k].toNat = 32
        · have HHIT := Lib.hid (show k < sl.length → sl.getD k 0 = 32 from fun h => by rw [← HB.out]; exact UInt8.toNat.inj h32)
          go_wp2_with (at_builtin; refine wpList_append_own _ rfl (.tmp 22) (.tmp 27) 63 rfl w.heap.size 9 i0 (.string ⟨#[]⟩) 1 16 Tryz.underlying63 hi hz0 hz1 hz2 rfl (by decide) _ _ _ rfl (HPT.out.own.alloc _) ⟨wr.heap.size, 0, none⟩ 1 1 [.string (s.extract fr k)] rfl rfl (cells_new _ [.string (s.extract fr k)] _ _ rfl) (str_one _) (by unfold maxLen; omega) (by omega) (by simp; omega) ?_; intro v4 w4 hown4 hg4 _q; have HN4 := Lib.hid (PtI.hit2 HPT.out HKL.out HHIT.out (HEX.out _ _) hown4 hg4); clear hown4 hg4)
          refine ⟨⟨k + 1, k + 1, _, by simp, by simp, by have := HKS.out; omega, HN4.out⟩, by have := HKS.out; simp [intOf]; omega⟩
        · have HMISS := Lib.hid (show sl.getD k 0 ≠ 32 from fun h => h32 (by rw [HB.out, h]; rfl))
          have h32I : ((s[k].toNat : Int) == 32) = false := beq_eq_false_iff_ne.2 (by omega)
          go_wp2_with fail
          refine ⟨⟨k + 1, fr, acc, by simp, rfl, by have := HKS.out; omega, HPT.out.skip (by rw [HLN.out]; exact hkl) HMISS.out⟩, by have := HKS.out; simp [intOf]; omega⟩
    · have hkI : (k : Int) = s.size + 1 := by omega
      have HKE := Lib.hid (show k = sl.length + 1 by rw [HLN.out]; omega)
      go_wp2_with fail
      go_ret
      exact ⟨_, rfl, by rw [← HPT.out.fin HKE.out]; exact HPT.out.own, HPT.out.bl⟩
/-- What rows answers: the rows that a line feed ends, what is left. -/
def RowsP (s : List UInt8) (w : World) (e : Ending) (w' : World) : Prop := ∃ v r, e = .returned (.tuple #[v, .string r]) ∧ r.data.toList = (splitC 10 s).getLastD [] ∧ w'.ownsRow w.heap.size 9 1 v (splitC 10 s).dropLast.length (strsL (splitC 10 s).dropLast) ∧ Below w.heap.size w w'
set_option maxRecDepth 100000 in
set_option maxHeartbeats 4000000 in
theorem refRows_any (s : ByteArray) (w : World) (hs : s.size ≤ 16777216) : Calls Tryz.prog 16 #[.string s] w (RowsP s.data.toList w) := by
  obtain ⟨i0, hi, hz0, hz1, hz2⟩ := info_parts infoStrP
  have hsl : s.data.toList.length = s.size := by simp
  have HEX := Lib.hid (fun a b => ext_data s a b)
  obtain ⟨sl, hsl2⟩ : ∃ sl, sl = s.data.toList := ⟨_, rfl⟩
  have HSL := Lib.hid hsl2
  rw [← hsl2] at hsl HEX ⊢
  have HLN := Lib.hid hsl
  clear hsl hsl2
  have hsI : (s.size : Int) ≤ 16777216 := by omega
  go_enter Tryz.func16, Tryz.ntmps16
  go_wp2_with fail
  go_loopw [4, 5, 6] (fun v f i wr => ∃ (k fr : Nat) (acc : List (List UInt8)), i = .int .i64 k ∧ f = .int .i64 fr ∧ k ≤ s.size ∧ PtI 10 w wr v sl acc fr k) (fun _ _ i _ => s.size + 2 - (intOf i).toNat)
  case atStart => exact ⟨0, 0, [], rfl, rfl, Nat.zero_le _, PtI.start 10 w sl⟩
  case round =>
    obtain ⟨k, fr, acc, rfl, rfl, hks, hpt⟩ := hrel
    have HPT := Lib.hid hpt
    have hal := hpt.len
    have hwr := hpt.bl.size
    obtain ⟨av, cv, rfl⟩ := G.own_shape hpt.own
    clear hpt
    have hkI : (k : Int) ≤ s.size := by omega
    have hfr : fr ≤ k := (HPT.out.cut (by rw [HLN.out]; exact hks)).le
    have hfI : (fr : Int) ≤ k := by omega
    have HKL := Lib.hid (show k ≤ sl.length by rw [HLN.out]; exact hks)
    by_cases hke : k = s.size
    · have hkeI : (k : Int) = s.size := by omega
      have HST := Lib.hid (show splitC 10 sl = acc ++ [sl.drop fr] from (by have := HPT.out.cut HKL.out; rw [show k = sl.length by rw [HLN.out]; exact hke] at this; exact this.stop))
      have HR := Lib.hid (show (s.extract fr s.size).data.toList = sl.drop fr from by rw [HEX.out, List.take_of_length_le (by rw [List.length_drop, HLN.out]; exact Nat.le_refl _)])
      clear hke
      go_wp2_with fail
      go_region
      go_wp2_with fail
      go_ret2
      refine ⟨_, _, rfl, ?_, ?_, HPT.out.bl.drew⟩
      · rw [HST.out, HR.out, List.getLastD_eq_getLast?, List.getLast?_append]
        rfl
      · rw [HST.out, List.dropLast_concat]
        exact HPT.out.own.drew
    · have hkl : k < s.size := by omega
      have hklI : (k : Int) < s.size := by omega
      have HB := Lib.hid (byte_at HSL.out hkl)
      by_cases h10 : s[k].toNat = 10
      · have HHIT := Lib.hid (show k < sl.length → sl.getD k 0 = 10 from fun h => by rw [← HB.out]; exact UInt8.toNat.inj h10)
        have HKS := Lib.hid hkl
        go_wp2_with (at_builtin; refine wpList_append_own _ rfl (.tmp 17) (.tmp 22) 63 rfl w.heap.size 9 i0 (.string ⟨#[]⟩) 1 16 Tryz.underlying63 hi hz0 hz1 hz2 rfl (by decide) _ _ _ rfl (HPT.out.own.alloc _) ⟨wr.heap.size, 0, none⟩ 1 1 [.string (s.extract fr k)] rfl rfl (cells_new _ [.string (s.extract fr k)] _ _ rfl) (str_one _) (by unfold maxLen; omega) (by omega) (by simp; omega) ?_; intro v4 w4 hown4 hg4 _q; have HN4 := Lib.hid (PtI.hit2 HPT.out HKL.out HHIT.out (HEX.out _ _) hown4 hg4); clear hown4 hg4)
        refine ⟨⟨k + 1, k + 1, _, by simp, by simp, by have := HKS.out; omega, HN4.out⟩, by have := HKS.out; simp [intOf]; omega⟩
      · have HMISS := Lib.hid (show sl.getD k 0 ≠ 10 from fun h => h10 (by rw [HB.out, h]; rfl))
        have HKS := Lib.hid hkl
        have h10I : ((s[k].toNat : Int) == 10) = false := beq_eq_false_iff_ne.2 (by omega)
        go_wp2_with fail
        refine ⟨⟨k + 1, fr, acc, by simp, rfl, by have := HKS.out; omega, HPT.out.skip (by rw [HLN.out]; exact hkl) HMISS.out⟩, by have := HKS.out; simp [intOf]; omega⟩
end
end Go.Proofs.YtfldicaaaadgaaaGreatDoor.Code

/- What the library answers under code.Parse: strings.Split, strings.Trim, strconv.Atoi; the contract of code.number. -/
import Derived.Test.YtfldicaaaadgaaaGreatDoorCShelfP
import Derived.Test.YtfldicaaaadgaaaGreatDoorCSplitR
import Derived.Test.YtfldicaaaadgaaaGreatDoorCBase
import Derived.BigQuiet
namespace Go.Proofs.YtfldicaaaadgaaaGreatDoor.Code
open Go Go.RowKit
set_option linter.unusedVariables false
set_option linter.unusedSimpArgs false
def digsB : ByteArray := ⟨#[48, 49, 50, 51, 52, 53, 54, 55, 56, 57]⟩
/-- What the library answers, in this world and in later ones. -/
structure LibP (w : World) : Prop where
  split : ∀ (s : ByteArray) (c : UInt8) (W : World), s.size ≤ 16777216 → Below w.heap.size w W → Calls Tryz.prog 14 #[.string s, .string ⟨#[c]⟩] W fun e w' =>
    e = .returned (.slice (some ⟨W.heap.size, 0, none⟩) (splitC c s.data.toList).length (splitC c s.data.toList).length) ∧ w' = W.alloc (.cells (strsL (splitC c s.data.toList)).toArray 9)
  trim : ∀ (s : ByteArray) (W : World), s.size ≤ 16777216 → Below w.heap.size w W → Calls Tryz.prog 74 #[.string s, .string digsB] W fun e w' =>
    e = .returned (.string ⟨(Lib.trimS s.data.toList digsL).toArray⟩) ∧ Below W.heap.size W w'
  atoi : ∀ (s : ByteArray) (W : World), s.size ≤ 16777216 → Below w.heap.size w W → s.data.toList ≠ [] → s.data.toList.all isDig = true → Calls Tryz.prog 75 #[.string s] W fun e w' =>
    (∃ n ev, e = .returned (.tuple #[.int .i64 n, ev]) ∧ ((valL 0 s.data.toList ≤ most63 ∧ n = valL 0 s.data.toList ∧ ev = .nilIface) ∨ (most63 < valL 0 s.data.toList ∧ ∃ t p, ev = .iface t p))) ∧ Below W.heap.size W w'
theorem LibP.below {w w' : World} (h : LibP w) (hb : Below w.heap.size w w') : LibP w' :=
  ⟨fun s c W h1 h2 => h.split s c W h1 (Bl.tr hb h2), fun s W h1 h2 => h.trim s W h1 (Bl.tr hb h2), fun s W h1 h2 => h.atoi s W h1 (Bl.tr hb h2)⟩
theorem libP_of {w : World} (hsh : w.ShapedOpen Tryz.prog) {ev : Value} (hv : w.cell? ⟨5, 0, none⟩ = some ev) (hev : ev = .nilIface ∨ ∃ te pe, ev = .iface te pe) : LibP w := by
  have hlt : 5 < w.heap.size := World.block_lt_of_cell? _ _ hv
  refine ⟨fun s c W hs hb => ?_, fun s W hs hb => ?_, fun s W hs hb h0 hd => ?_⟩
  · have h := Tryz.strings_Split_shaped s ⟨#[c]⟩ W (hsh.keptBut (hb.frame (fun _ => False)) (fun _ h => h.elim)) (by omega) (Nat.le_refl 1)
    rw [split_count, split_cells] at h
    exact h
  · exact Any.strings_Trim_laid Tryz.lays160 (by kernel_rfl) s digsB W (by omega) (by decide) (ascii_of_all (by decide))
  · have ha := atoi_val h0 hd
    by_cases hm : valL 0 s.data.toList ≤ 9223372036854775807
    · rw [if_pos hm] at ha
      refine (Tryz.strconv_Atoi_ok s (by omega) _ ha W).mono fun e w' ⟨h1, h2⟩ => ⟨⟨_, _, h1, .inl ⟨hm, rfl, rfl⟩⟩, ?_⟩
      rcases h2 with rfl | ⟨t, rfl⟩
      · exact Below.refl _ _
      · exact Lib.bytesWorld_below _ _ _
    · rw [if_neg hm] at ha
      refine (Tryz.strconv_Atoi_range s (by omega) ha ev W ((hb.cell (p := ⟨5, 0, none⟩) hlt).trans hv) hev).mono fun e w' ⟨N, h1, _, _, h2⟩ => ⟨⟨_, _, h1, .inr ⟨by unfold most63; omega, _, _, rfl⟩⟩, h2⟩
theorem empty_or (s : ByteArray) : s = ⟨#[]⟩ ∨ (s.toList.isEmpty = false ∧ (s.toList == []) = false ∧ s.toList ≠ [] ∧ s.data.toList ≠ [] ∧ 0 < s.size) := by
  rw [ByteArray.toList_eq]
  cases hc : s.data.toList with
  | nil =>
    left
    apply ByteArray.ext
    apply Array.toList_inj.1
    exact hc
  | cons a l =>
    right
    have hl : s.data.toList.length = s.size := by simp
    rw [hc] at hl
    simp only [List.length_cons] at hl
    exact ⟨rfl, rfl, by simp, by simp, by omega⟩
def NumP (s : ByteArray) (w : World) (e : Ending) (w' : World) : Prop :=
  ∃ n : Int, e = .returned (.tuple #[.int .i64 n, .bool (numL s.data.toList).isSome]) ∧ (∀ m, numL s.data.toList = some m → n = m) ∧ Below w.heap.size w w'
theorem numP_none {s : ByteArray} {w w' : World} {n : Int} (h : numL s.data.toList = none) (hb : Below w.heap.size w w') : NumP s w (.returned (.tuple #[.int .i64 n, .bool false])) w' := ⟨n, by rw [h]; rfl, fun m hm => (by rw [h] at hm; cases hm), hb⟩
theorem numP_some {s : ByteArray} {w w' : World} {n : Int} (h : numL s.data.toList = some n) (hb : Below w.heap.size w w') : NumP s w (.returned (.tuple #[.int .i64 n, .bool true])) w' := ⟨n, by rw [h]; rfl, fun m hm => (by rw [h] at hm; exact Option.some.inj hm), hb⟩
set_option maxRecDepth 100000 in
set_option maxHeartbeats 2000000 in
theorem number_any (s : ByteArray) (w0 w : World) (hs : s.size ≤ 16777216) (hL : LibP w0) (hb : Below w0.heap.size w0 w) : Calls Tryz.prog 51 #[.string s] w (NumP s w) := by
  have HT := Lib.hid (fun W h => hL.trim s W hs (Bl.tr hb h))
  have HA := Lib.hid (fun W h => hL.atoi s W hs (Bl.tr hb h))
  clear hL hb
  have hsI : (s.size : Int) ≤ 16777216 := by omega
  rcases empty_or s with rfl | ⟨e1, e2, e3, hne, hpos⟩
  · have HN := Lib.hid (numL_none (s := (⟨#[]⟩ : ByteArray).data.toList) (.inl rfl))
    go_enter Tryz.func51, Tryz.ntmps51
    go_wp2_with fail
    go_ret2
    exact numP_none HN.out (Below.refl _ _)
  · have HNE := Lib.hid hne
    cases hd : s.data.toList.all isDig with
    | false =>
      have HN := Lib.hid (numL_none (.inr (.inl hd)))
      obtain ⟨T, hT⟩ : ∃ T : ByteArray, T = ⟨(Lib.trimS s.data.toList digsL).toArray⟩ := ⟨_, rfl⟩
      have hTne : T ≠ ⟨#[]⟩ := by
        rintro rfl
        have : Lib.trimS s.data.toList digsL = [] := by
          have h := congrArg (fun b : ByteArray => b.data.toList) hT
          simpa using h.symm
        rw [trim_digs, hd] at this
        cases this
      rw [← hT] at HT
      rcases empty_or T with h | ⟨f1, f2, f3, _, _⟩
      · exact absurd h hTne
      · clear hT hTne hd hne
        go_enter Tryz.func51, Tryz.ntmps51
        go_wp2_with fail
        refine (HT.out w (Below.refl _ _)).mono ?_
        rintro e w1 ⟨rfl, hb1⟩
        have HB1 := Lib.hid hb1
        clear hb1
        go_wp2_with fail
        go_ret2
        exact numP_none HN.out HB1.out
    | true =>
      have HD := Lib.hid hd
      have hT : (⟨(Lib.trimS s.data.toList digsL).toArray⟩ : ByteArray) = ⟨#[]⟩ := by rw [(trim_digs s.data.toList).2 hd]
      rw [hT] at HT
      have hlen : s.data.toList.length = s.size := by simp
      have hhead : ∃ (h : 0 < s.size), s.data.toList.headD 0 = s[0] := by
        refine ⟨hpos, ?_⟩
        rw [List.headD_eq_head?_getD, List.head?_eq_getElem?, Array.getElem?_toList, Array.getElem?_eq_getElem (show 0 < s.data.size from hpos)]
        rfl
      obtain ⟨_, hhd⟩ := hhead
      obtain ⟨c, hc⟩ : ∃ c, c = s[0] := ⟨_, rfl⟩
      rw [← hc] at hhd
      have HC := Lib.hid hc
      clear hd hne hT
      by_cases hz : 1 < s.size ∧ c = 48
      · have HN := Lib.hid (numL_none (s := s.data.toList) (.inr (.inr (.inl ⟨by rw [hlen]; exact hz.1, by rw [hhd]; exact hz.2⟩))))
        have h1 : (1 : Int) < s.size := by omega
        have hc0 : ((s[0]'hpos).toNat : Int) = 48 := by rw [← hc, hz.2]; rfl
        clear hhd hc hz
        go_enter Tryz.func51, Tryz.ntmps51
        go_wp2_with fail
        refine (HT.out w (Below.refl _ _)).mono ?_
        rintro e w1 ⟨rfl, hb1⟩
        have HB1 := Lib.hid hb1
        clear hb1
        go_wp2_with fail
        go_ret2
        exact numP_none HN.out HB1.out
      · have HNZ := Lib.hid (show ¬ (1 < s.data.toList.length ∧ s.data.toList.headD 0 = 48) by rw [hlen, hhd]; exact hz)
        have hcase : (¬ (1 : Int) < s.size) ∨ ((1 : Int) < s.size ∧ (((s[0]'hpos).toNat : Int) == 48) = false) := by
          by_cases h1 : 1 < s.size
          · right
            refine ⟨by omega, ?_⟩
            rw [beq_eq_false_iff_ne]
            intro h
            apply hz
            refine ⟨h1, ?_⟩
            rw [hc, ← UInt8.toNat_inj]
            show _ = 48
            omega
          · left; omega
        clear hhd hc hz
        rcases hcase with h1 | ⟨h1, h2⟩
        all_goals
          go_enter Tryz.func51, Tryz.ntmps51
          go_wp2_with fail
          refine (HT.out w (Below.refl _ _)).mono ?_
          rintro e w1 ⟨rfl, hb1⟩
          have HB1 := Lib.hid hb1
          clear hb1
          go_wp2_with fail
          refine (HA.out w1 HB1.out HNE.out HD.out).mono ?_
          rintro e w2 ⟨⟨n, ev, rfl, hcs⟩, hb2⟩
          have HB2 := Lib.hid (Bl.tr HB1.out hb2)
          clear hb2
          rcases hcs with ⟨hm, rfl, rfl⟩ | ⟨hm, t, p, rfl⟩
          · have HN := Lib.hid (numL_some HNE.out HD.out HNZ.out hm)
            clear hm
            go_wp2_with fail
            go_quiet (fail)
            go_wp2_with fail
            go_ret2
            exact numP_some HN.out (Bl.dn HB2.out _)
          · have HN := Lib.hid (numL_none (s := s.data.toList) (.inr (.inr (.inr hm))))
            clear hm
            go_wp2_with fail
            go_quiet (fail)
            go_wp2_with fail
            go_ret2
            exact numP_none HN.out (Bl.dn HB2.out _)
end Go.Proofs.YtfldicaaaadgaaaGreatDoor.Code

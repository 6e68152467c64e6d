/- The contracts of tokens.mark and tokens.number. -/
import Derived.Test.YtlaikgaepaiigaaGreatDoorKClass
import Derived.Lib.ParseIntB
import Derived.Lib.SmallJoins
namespace Go.Proofs.YtlaikgaepaiigaaGreatDoor.K
open Go Go.RowKit
set_option linter.unusedVariables false
set_option linter.unusedSimpArgs false
def markDown (s : ByteArray) (p : Nat) : Nat → Nat
  | 0 => 0
  | k + 1 => if isMarkB (s.extract p (p + (k + 1))).data.toList then k + 1 else markDown s p k
theorem markLen_down (s : ByteArray) (p : Nat) (hp : p ≤ s.size) : markLen s p = markDown s p (min 2 (s.size - p)) := by
  unfold markLen
  rcases Nat.lt_or_ge (s.size - p) 1 with h | h
  · rw [if_neg (by omega), if_neg (by omega), show min 2 (s.size - p) = 0 by omega]
    rfl
  · rcases Nat.lt_or_ge (s.size - p) 2 with h2 | h2
    · rw [if_neg (by omega), show min 2 (s.size - p) = 1 by omega]
      show _ = if isMarkB _ then 1 else 0
      by_cases hm : marksL.contains (s.extract p (p + 1)).data.toList = true
      · rw [if_pos ⟨by omega, hm⟩, if_pos (show isMarkB _ = true from hm)]
      · rw [if_neg (fun e => hm e.2), if_neg (show ¬ isMarkB _ = true from hm)]
    · rw [show min 2 (s.size - p) = 2 by omega]
      show _ = if isMarkB _ then 2 else if isMarkB _ then 1 else 0
      by_cases hm : marksL.contains (s.extract p (p + 2)).data.toList = true
      · rw [if_pos ⟨by omega, hm⟩, if_pos (show isMarkB (s.extract p (p + (1 + 1))).data.toList = true from hm)]
      · rw [if_neg (fun e => hm e.2), if_neg (show ¬ isMarkB (s.extract p (p + (1 + 1))).data.toList = true from hm)]
        by_cases hm1 : marksL.contains (s.extract p (p + 1)).data.toList = true
        · rw [if_pos ⟨by omega, hm1⟩, if_pos (show isMarkB (s.extract p (p + (0 + 1))).data.toList = true from hm1)]
        · rw [if_neg (fun e => hm1 e.2), if_neg (show ¬ isMarkB (s.extract p (p + (0 + 1))).data.toList = true from hm1)]
theorem size_u8 : ∀ w, (Go.sizeOf 5).run Tryz.prog w = .ok 1 w := fun w => by kernel_rfl
/-- 's[l:h]' of the source and what it reads as. -/
theorem win {W : World} {b o c p k : Nat} {s : ByteArray} (hb : Lib.Bytes W b o s) (hk : 0 < k) (hc : s.size ≤ c) (h : p + k ≤ s.size) :
    (Instr.slice 32 (.slice (some ⟨b, o, none⟩) s.size c) (some (.int .i64 (p : Int))) (some (.int .i64 ((p : Int) + (k : Int)))) none).run Tryz.prog W = .ok (.slice (some ⟨b, o + p, none⟩) k (c - p)) W ∧
    (convert 32 9 (.slice (some ⟨b, o + p, none⟩) k (c - p))).run Tryz.prog W = .ok (.string (s.extract p (p + k))) W := by
  have h1 := Lib.run_slice_window (P := Tryz.prog) W 32 5 Tryz.underlying32 size_u8 b o s.size c p (p + k) (by omega) (by omega)
  rw [show p + k - p = k by omega, show ((p + k : Nat) : Int) = (p : Int) + (k : Int) by omega] at h1
  exact ⟨h1, Lib.run_convert_window W 32 5 9 Tryz.underlying32 Tryz.underlying5 Tryz.underlying9 b o s hb p k (c - p) h⟩
set_option maxRecDepth 100000 in
set_option maxHeartbeats 4000000 in
theorem mark_any (A : Option Addr) (c : Nat) (s : ByteArray) (p : Nat) (w : World) (hs : Src w A s) (hc : s.size ≤ c) (hn : s.size ≤ 65536) (hp : p < s.size) (hL : LibIn w) :
    Calls Tryz.prog 30 #[.slice A s.size c, .int .i64 p] w fun e w' => e = .returned (.int .i64 (markLen s p)) ∧ w = w' := by
  obtain ⟨R, hR⟩ : ∃ R, R = markLen s p := ⟨_, rfl⟩
  rw [← hR]
  rw [markLen_down s p (by omega)] at hR
  obtain ⟨b, o, rfl, hbw, hbs⟩ := hs (by omega)
  have HB := Lib.hid hbs
  have HL := Lib.hid hL
  have hp0 : (0 : Int) ≤ p := by omega
  have hpn : (p : Int) < s.size := by omega
  have hnI : (s.size : Int) ≤ 65536 := by omega
  obtain ⟨m, hm⟩ : ∃ m, m = min 2 (s.size - p) := ⟨_, rfl⟩
  rw [← hm] at hR
  have HR := Lib.hid hR
  have hmI : min 2 ((s.size : Int) - p) = m := by omega
  have hm2 : m ≤ 2 ∧ p + m ≤ s.size := by omega
  clear hR hm hs hbs hL
  go_enter Tryz.func30, Tryz.ntmps30
  go_wp2_with fail
  go_loop [5] (fun u => ∃ k : Nat, k ≤ m ∧ u = .int .i64 k ∧ Hid (R = markDown s p k)) (fun u => (intOf u).toNat)
  case atStart => exact ⟨m, Nat.le_refl _, by first | rfl | rw [hmI], HR⟩
  case round =>
    obtain ⟨k, hk, rfl, HK⟩ := hrel
    cases k with
    | zero =>
      have HZ := Lib.hid (show R = 0 from HK.out)
      go_wp2_with fail
      go_ret
      exact ⟨ret_int (by rw [HZ.out]; rfl), rfl⟩
    | succ k =>
      obtain ⟨w1, w2⟩ := win (W := w) (p := p) (k := k + 1) HB.out (by omega) hc (by omega)
      have HM := Lib.hid (isMark_any (s.extract p (p + (k + 1))) w HL.out (by rw [ByteArray.size_extract]; omega))
      have HKK := Lib.hid (show R = if isMarkB (s.extract p (p + (k + 1))).data.toList then k + 1 else markDown s p k from HK.out)
      generalize isMarkB (s.extract p (p + (k + 1))).data.toList = B at HM HKK
      have hk0 : (0 : Int) < ((k + 1 : Nat) : Int) := by omega
      have hk1 : (0 : Int) < (k : Int) + 1 := by omega
      have e1 : ((k + 1 : Nat) : Int) = (k : Int) + 1 := by omega
      rw [e1] at w1
      clear e1 HK
      cases B with
      | true =>
        have HZ := Lib.hid (show R = k + 1 from HKK.out)
        go_wp2_with fail
        refine HM.out.mono ?_
        rintro e wq ⟨rfl, rfl⟩
        go_wp2_with fail
        go_ret
        exact ⟨ret_int (by rw [HZ.out]; omega), rfl⟩
      | false =>
        have HZ := Lib.hid (show R = markDown s p k from HKK.out)
        go_wp2_with fail
        refine HM.out.mono ?_
        rintro e wq ⟨rfl, rfl⟩
        go_wp2_with fail
        go_round
        case rel => exact ⟨k, by omega, by go_num, HZ⟩
        case measure => simp [intOf]
/-! ### Numbers -/
def valStep (a : Nat) (c : UInt8) : Nat := a * 10 + (c.toNat - 48)
def valL (acc : Nat) (l : List UInt8) : Nat := l.foldl valStep acc
theorem valL_cons (acc : Nat) (c : UInt8) (r : List UInt8) : valL acc (c :: r) = valL (acc * 10 + (c.toNat - 48)) r := by
  unfold valL
  rw [List.foldl_cons]
  rfl
theorem valL_ge : ∀ (l : List UInt8) (acc : Nat), acc ≤ valL acc l
  | [], acc => Nat.le_refl _
  | c :: r, acc => by
    have := valL_ge r (acc * 10 + (c.toNat - 48))
    rw [valL_cons]
    omega
theorem valL_snoc : ∀ (l : List UInt8) (acc : Nat) (c : UInt8), valL acc (l ++ [c]) = valL acc l * 10 + (c.toNat - 48)
  | [], acc, c => rfl
  | d :: r, acc, c => by rw [List.cons_append, valL_cons, valL_cons, valL_snoc r]
theorem parse_uint (M : Nat) (hM : M = 18446744073709551615) : ∀ (l : List UInt8) (acc : Nat), (∀ c ∈ l, 48 ≤ c.toNat ∧ c.toNat ≤ 57) → acc ≤ M →
    Lib.parseUintM M acc l = if valL acc l ≤ M then .ok (valL acc l) else .range
  | [], acc, _, h => by
    show Lib.NumEnd.ok acc = if acc ≤ M then Lib.NumEnd.ok acc else Lib.NumEnd.range
    rw [if_pos h]
  | c :: r, acc, hd, h => by
    have hc := hd c (by simp)
    have hg := valL_ge r (acc * 10 + (c.toNat - 48))
    rw [valL_cons]
    unfold Lib.parseUintM
    rw [if_pos hc]
    by_cases h1 : 1844674407370955162 ≤ acc
    · rw [if_pos h1, if_neg (by omega)]
    · rw [if_neg h1]
      by_cases h2 : M < acc * 10 + (c.toNat - 48)
      · rw [if_pos h2, if_neg (by omega)]
      · rw [if_neg h2]
        exact parse_uint M hM r _ (fun d hd' => hd d (List.mem_cons_of_mem _ hd')) (by omega)
theorem parse_int {l : List UInt8} (hn : l ≠ []) (hd : ∀ c ∈ l, 48 ≤ c.toNat ∧ c.toNat ≤ 57) : Lib.parseIntB 64 l = if valL 0 l ≤ 9223372036854775807 then .ok (valL 0 l : Int) else .range := by
  cases l with
  | nil => exact absurd rfl hn
  | cons c r =>
    have hc := hd c (by simp)
    have h1 : Lib.parseUintB 64 (c :: r) = if valL 0 (c :: r) ≤ 18446744073709551615 then .ok (valL 0 (c :: r)) else .range := by
      unfold Lib.parseUintB
      rw [if_neg (by simp)]
      exact parse_uint _ rfl (c :: r) 0 hd (Nat.zero_le _)
    unfold Lib.parseIntB
    simp only
    rw [if_neg (by omega), h1]
    by_cases h2 : valL 0 (c :: r) ≤ 18446744073709551615
    · rw [if_pos h2]
      simp only
      by_cases h3 : valL 0 (c :: r) ≤ 9223372036854775807
      · rw [if_pos h3, if_neg (by omega), if_neg (by omega), if_neg (by omega)]
      · rw [if_neg h3, if_pos ⟨by omega, by omega⟩]
    · rw [if_neg h2, if_neg (by omega)]
theorem extract_snoc {s : ByteArray} {p k : Nat} (h : p + k < s.size) : (s.extract p (p + (k + 1))).data.toList = (s.extract p (p + k)).data.toList ++ [s[p + k]] := by
  rw [Lib.extract_data, Lib.extract_data, show p + (k + 1) - p = k + 1 by omega, show p + k - p = k by omega]
  have hl : k < (s.data.toList.drop p).length := by
    rw [List.length_drop, Array.length_toList]
    have : s.data.size = s.size := rfl
    omega
  rw [List.take_succ_eq_append_getElem hl, List.getElem_drop]
  rfl
theorem bt_get {s : ByteArray} {i : Nat} (h : i < s.size) : bt s i = (s[i].toNat : Int) := dif_pos h
theorem val_num {s : ByteArray} {p : Nat} : ∀ k, p + k ≤ s.size → valL 0 (s.extract p (p + k)).data.toList = numOf s p k
  | 0, h => by
    rw [Lib.extract_data, show p + 0 - p = 0 by omega]
    rfl
  | k + 1, h => by
    rw [extract_snoc (by omega), valL_snoc, val_num k (by omega), numOf, bt_get (show p + k < s.size by omega)]
    omega
theorem digits_of {s : ByteArray} {p q : Nat} (hq : q ≤ s.size) (h : ∀ i, p ≤ i → i < q → digitI (bt s i) = true) : ∀ c ∈ (s.extract p q).data.toList, 48 ≤ c.toNat ∧ c.toNat ≤ 57 := by
  intro c hc
  obtain ⟨i, hi, rfl⟩ := List.mem_iff_getElem.1 hc
  have hsz : (s.extract p q).data.toList.length = min q s.size - p := by rw [Array.length_toList]; exact ByteArray.size_extract
  have h1 := h (p + i) (by omega) (by omega)
  rw [bt_get (by omega)] at h1
  have e : (s.extract p q).data.toList[i] = s[p + i]'(by omega) := by
    have : (s.extract p q).data.toList = (s.data.toList.drop p).take (q - p) := Lib.extract_data s p q
    simp only [this, List.getElem_take, List.getElem_drop]
    rfl
  rw [e]
  simp only [digitI, Bool.and_eq_true, decide_eq_true_eq] at h1
  omega
def numRes (s : ByteArray) (p q : Nat) : Int × Int :=
  if 9223372036854775807 < numOf s p (q - p) then (0, p) else if q < s.size ∧ partI (bt s q) = true then (0, q) else (numOf s p (q - p), -1)
def NumPost (s : ByteArray) (p q : Nat) (w : World) (e : Ending) (w' : World) : Prop := e = .returned (.tuple #[.int .i64 (numRes s p q).1, .int .i64 (numRes s p q).2]) ∧ Below w.heap.size w w'
theorem ret_ints {k l : IntKind} {a b c d : Int} (h : a = b) (h2 : c = d) : Ending.returned (.tuple #[.int k a, .int l c]) = .returned (.tuple #[.int k b, .int l d]) := by rw [h, h2]
set_option maxRecDepth 100000 in
set_option maxHeartbeats 4000000 in
theorem number_any (A : Option Addr) (c : Nat) (s : ByteArray) (p q : Nat) (w : World) (hs : Src w A s) (hc : s.size ≤ c) (hn : s.size ≤ 65536) (hp : p < q) (hq : q ≤ s.size) (hd : ∀ i, p ≤ i → i < q → digitI (bt s i) = true) (hL : LibIn w) :
    Calls Tryz.prog 27 #[.slice A s.size c, .int .i64 p, .int .i64 q] w (NumPost s p q w) := by
  obtain ⟨k, rfl⟩ : ∃ k, q = p + k := ⟨q - p, by omega⟩
  obtain ⟨b, o, rfl, hbw, hbs⟩ := hs (by omega)
  have hsz : (s.extract p (p + k)).size = k := by rw [ByteArray.size_extract]; omega
  have hne : (s.extract p (p + k)).data.toList ≠ [] := by
    intro e
    have := congrArg List.length e
    rw [Array.length_toList] at this
    have h2 : (s.extract p (p + k)).data.size = (s.extract p (p + k)).size := rfl
    simp at this
    omega
  have hpi := parse_int hne (digits_of hq hd)
  rw [val_num k hq] at hpi
  have hbr := bt_range s (p + k)
  obtain ⟨w1, w2⟩ := win (W := w) (p := p) (k := k) hbs (by omega) hc (by omega)
  have HSRC := Lib.hid hs
  have HL := Lib.hid hL
  have hp0 : (0 : Int) ≤ p := by omega
  have hk0 : (0 : Int) < k := by omega
  have hnI : (s.size : Int) ≤ 65536 := by omega
  have hqI : (p : Int) + k ≤ s.size := by omega
  obtain ⟨R, hR⟩ : ∃ R, R = numRes s p (p + k) := ⟨_, rfl⟩
  unfold NumPost
  rw [← hR]
  unfold numRes at hR
  rw [show p + k - p = k by omega] at hR
  obtain ⟨V, hV⟩ : ∃ V, V = numOf s p k := ⟨_, rfl⟩
  rw [← hV] at hpi hR
  have eq1 : ((p + k : Nat) : Int) = (p : Int) + (k : Int) := by omega
  rw [eq1] at hR ⊢
  clear hV hd hne eq1
  by_cases hv : V ≤ 9223372036854775807
  · rw [if_pos hv] at hpi
    have HP := Lib.hid (Tryz.strconv_ParseInt_10_at64_ok (s.extract p (p + k)) (by omega) V hpi w)
    rw [if_neg (by omega)] at hR
    by_cases hqn : p + k < s.size
    · have hqn1 : (p : Int) + k < s.size := by omega
      obtain ⟨B, hB⟩ : ∃ B, B = partI (bt s (p + k)) := ⟨_, rfl⟩
      have HPT := Lib.hid (fun W => part_any (bt s (p + k)) W hbr.1 hbr.2)
      rw [← hB] at HPT
      have hcell : ∀ W, Below w.heap.size w W → W.cell? ⟨b, o + (p + k), none⟩ = some (.int .u8 (bt s (p + k))) := fun W h => by
        rw [h.cell (p := ⟨b, o + (p + k), none⟩) hbw, hbs (p + k) hqn, bt_get hqn]
      have HCL := Lib.hid hcell
      generalize bt s (p + k) = y at *
      clear hpi hcell hs hbs hL hsz hbr
      cases B with
      | true =>
        have HRR := Lib.hid (show R = (0, (p : Int) + k) by rw [hR, if_pos ⟨hqn, hB.symm⟩])
        clear hR hB
        go_enter Tryz.func27, Tryz.ntmps27
        go_wp2_with fail
        refine HP.out.mono ?_
        rintro e w3 ⟨rfl, hw3⟩
        have hb3 : Below w.heap.size w w3 := by
          rcases hw3 with rfl | ⟨t, rfl⟩
          · exact Below.refl _ _
          · exact Joins.below_bytesWorld _ _ _ _ (Nat.le_refl _)
        have hcy := HCL.out w3 hb3
        have HB3 := Lib.hid hb3
        clear hw3 hb3
        go_wp2_with fail
        refine (HPT.out _).mono ?_
        rintro e wq ⟨rfl, rfl⟩
        go_wp2_with fail
        go_ret2
        exact ⟨ret_ints (by rw [HRR.out]) (by rw [HRR.out]), HB3.out⟩
      | false =>
        have HRR := Lib.hid (show R = ((V : Int), -1) by rw [hR, if_neg (fun h => by rw [← hB] at h; cases h.2)])
        clear hR hB
        go_enter Tryz.func27, Tryz.ntmps27
        go_wp2_with fail
        refine HP.out.mono ?_
        rintro e w3 ⟨rfl, hw3⟩
        have hb3 : Below w.heap.size w w3 := by
          rcases hw3 with rfl | ⟨t, rfl⟩
          · exact Below.refl _ _
          · exact Joins.below_bytesWorld _ _ _ _ (Nat.le_refl _)
        have hcy := HCL.out w3 hb3
        have HB3 := Lib.hid hb3
        clear hw3 hb3
        go_wp2_with fail
        refine (HPT.out _).mono ?_
        rintro e wq ⟨rfl, rfl⟩
        go_wp2_with fail
        go_ret2
        exact ⟨ret_ints (by rw [HRR.out]) (by rw [HRR.out]), HB3.out⟩
    · have hqn1 : ¬ (p : Int) + k < s.size := by omega
      have HRR := Lib.hid (show R = ((V : Int), -1) by rw [hR, if_neg (fun h => hqn h.1)])
      clear hR hpi hs hbs hL hsz hbr hqn
      go_enter Tryz.func27, Tryz.ntmps27
      go_wp2_with fail
      refine HP.out.mono ?_
      rintro e w3 ⟨rfl, hw3⟩
      have hb3 : Below w.heap.size w w3 := by
        rcases hw3 with rfl | ⟨t, rfl⟩
        · exact Below.refl _ _
        · exact Joins.below_bytesWorld _ _ _ _ (Nat.le_refl _)
      have HB3 := Lib.hid hb3
      clear hw3 hb3
      go_wp2_with fail
      go_ret2
      exact ⟨ret_ints (by rw [HRR.out]) (by rw [HRR.out]), HB3.out⟩
  · rw [if_neg hv] at hpi
    obtain ⟨ev, hev1, hev2⟩ := hL.rng
    have HP := Lib.hid (Tryz.strconv_ParseInt_10_at64_range (s.extract p (p + k)) (by omega) hpi ev w hev1 hev2)
    have HRR := Lib.hid (show R = (0, (p : Int)) by rw [hR, if_pos (by omega)])
    clear hR hpi hs hbs hL hsz hbr hev1 hev2
    go_enter Tryz.func27, Tryz.ntmps27
    go_wp2_with fail
    refine HP.out.mono ?_
    rintro e w3 ⟨N, rfl, hN, hcn, hb3⟩
    have HB3 := Lib.hid hb3
    clear hb3 hN hcn
    go_wp2_with fail
    go_ret2
    exact ⟨ret_ints (by rw [HRR.out]) (by rw [HRR.out]), HB3.out⟩
end Go.Proofs.YtlaikgaepaiigaaGreatDoor.K

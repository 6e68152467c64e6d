/- The contract of the reference's row. -/
import Derived.Test.YtfldicaaaadgaaaGreatDoorCRow
import Derived.Test.YtfldicaaaadgaaaGreatDoorCRefA
import Derived.Test.YtfldicaaaadgaaaGreatDoorCRefR
import Derived.Test.YtfldicaaaadgaaaGreatDoorCRowW
import Derived.Deep.RegionHeld3
namespace Go.Proofs.YtfldicaaaadgaaaGreatDoor.Code
section
open Go Go.RowKit
set_option linter.unusedVariables false
set_option linter.unusedSimpArgs false
def opTo (nm : List UInt8) : Nat → Int
  | 0 => 0
  | k + 1 => if nameOf (k : Int) ≠ [] ∧ nameOf (k : Int) = nm then (k : Int) else opTo nm k
theorem named_kind : ∀ n : Fin 256, nameOf (n.val : Int) ≠ [] → 0 ≤ kindOf (n.val : Int) := by decide +kernel
theorem table_named : ∀ r ∈ table, nameOf r.1 = r.2.1 ∧ r.2.1 ≠ [] ∧ 0 ≤ r.1 ∧ r.1 < 256 := by decide +kernel
theorem opTo_fact (nm : List UInt8) : ∀ k : Nat, k ≤ 256 → (opTo nm k = 0 ∧ ∀ i, i < k → ¬ (nameOf (i : Int) ≠ [] ∧ nameOf (i : Int) = nm)) ∨ (0 ≤ opTo nm k ∧ opTo nm k < 256 ∧ nameOf (opTo nm k) ≠ [] ∧ nameOf (opTo nm k) = nm)
  | 0, _ => .inl ⟨rfl, fun i h => by omega⟩
  | k + 1, hk => by
    unfold opTo
    by_cases h : nameOf (k : Int) ≠ [] ∧ nameOf (k : Int) = nm
    · rw [if_pos h]
      exact .inr ⟨by omega, by omega, h.1, h.2⟩
    · rw [if_neg h]
      rcases opTo_fact nm k (by omega) with ⟨a, b⟩ | h2
      · refine .inl ⟨a, fun i hi => ?_⟩
        by_cases hik : i = k
        · rw [hik]; exact h
        · exact b i (by omega)
      · exact .inr h2
theorem opTo_bd (nm : List UInt8) (k : Nat) (hk : k ≤ 256) : 0 ≤ opTo nm k ∧ opTo nm k < 256 := by
  rcases opTo_fact nm k hk with ⟨a, _⟩ | ⟨a, b, _⟩
  · rw [a]; decide
  · exact ⟨a, b⟩
theorem find_op (nm : List UInt8) : (kindOf (opTo nm 256) < 0 ∧ table.find? (fun r => r.2.1 == nm) = none) ∨ (0 ≤ kindOf (opTo nm 256) ∧ table.find? (fun r => r.2.1 == nm) = some (opTo nm 256, nm, kindOf (opTo nm 256))) := by
  rcases opTo_fact nm 256 (Nat.le_refl _) with ⟨a, b⟩ | ⟨a, b, c, d⟩
  · refine .inl ⟨by rw [a]; decide, ?_⟩
    rw [List.find?_eq_none]
    intro r hr he
    obtain ⟨t1, t2, t3, t4⟩ := table_named r hr
    have hn : r.2.1 = nm := by simpa using he
    obtain ⟨m, hm⟩ := Int.eq_ofNat_of_zero_le t3
    exact b m (by omega) ⟨by rw [← hm, t1]; exact t2, by rw [← hm, t1]; exact hn⟩
  · obtain ⟨m, hm⟩ := Int.eq_ofNat_of_zero_le a
    have hk : 0 ≤ kindOf (opTo nm 256) := by
      rw [hm] at c ⊢
      exact named_kind ⟨m, by omega⟩ c
    refine .inr ⟨hk, ?_⟩
    have h := (name_of _ a b hk).1
    rw [d] at h
    exact h
/-- The step of the search. -/
theorem opTo_hit {nm : List UInt8} {k : Nat} (h0 : nameOf (k : Int) ≠ []) (h : nameOf (k : Int) = nm) : opTo nm (k + 1) = k := if_pos ⟨h0, h⟩
theorem opTo_miss {nm : List UInt8} {k : Nat} (h : nameOf (k : Int) = [] ∨ nameOf (k : Int) ≠ nm) : opTo nm (k + 1) = opTo nm k := if_neg fun g => h.elim g.1 fun h => h g.2
theorem arOf_widths (k : Int) (h0 : 0 ≤ k) (h4 : k = 0 ∨ k = 1 ∨ k = 2 ∨ k = 3) : arOf k = (widthsOf k).length := by rcases h4 with rfl | rfl | rfl | rfl <;> rfl
theorem rnums_len : ∀ {qs : List (List UInt8)} {l : List Int}, numsL qs = some l → l.length = qs.length
  | [], l, h => by injection h with h; subst h; rfl
  | q :: qs, l, h => by
    rw [numsL] at h
    cases hq : numL q with
    | none => rw [hq] at h; cases h
    | some n =>
      rw [hq] at h
      cases hs : numsL qs with
      | none => simp only [hs] at h; cases h
      | some l' => simp only [hs] at h; injection h with h; subst h; simp [rnums_len hs]
theorem rnums_snoc {qs : List (List UInt8)} {q : List UInt8} {l : List Int} {n : Int} (h : numsL qs = some l) (hq : numL q = some n) : numsL (qs ++ [q]) = some (l ++ [n]) := by
  induction qs generalizing l with
  | nil => injection h with h; subst h; simp [numsL, hq]
  | cons a qs ih =>
    rw [numsL] at h
    cases ha : numL a with
    | none => rw [ha] at h; cases h
    | some n' =>
      rw [ha] at h
      cases hs : numsL qs with
      | none => simp only [hs] at h; cases h
      | some l' =>
        simp only [hs] at h
        injection h with h
        subst h
        rw [List.cons_append, numsL, ha]
        simp only
        rw [ih hs]
        rfl
theorem rnums_fail {qs : List (List UInt8)} {q : List UInt8} (hm : q ∈ qs) (hq : numL q = none) : numsL qs = none := by
  induction qs with
  | nil => cases hm
  | cons a qs ih =>
    rw [numsL]
    rcases List.mem_cons.1 hm with rfl | hm
    · rw [hq]
    · rw [ih hm]
      cases numL a <;> rfl
end
section
open Go Go.RowKit
set_option linter.unusedVariables false
set_option linter.unusedSimpArgs false
def FrN (g : Nat) (N1 : ByteArray) (wx w' : World) : Prop := w'.cell? ⟨g, 1, none⟩ = some (.string N1) ∧ Below wx.heap.size wx w'
theorem FrN.keep {g : Nat} {N1 : ByteArray} {wx w w' : World} (h : FrN g N1 wx w) (hb : Below w.heap.size w w') : FrN g N1 wx w' :=
  ⟨(hb.cell (World.block_lt_of_cell? _ _ h.1)).trans h.1, Bl.tr h.2 hb⟩
theorem FrN.drew {g : Nat} {N1 : ByteArray} {wx w : World} (h : FrN g N1 wx w) : FrN g N1 wx w.drew := ⟨h.1, h.2.drew⟩
theorem ba_nil {l : List UInt8} (h : (⟨l.toArray⟩ : ByteArray) = ⟨#[]⟩) : l = [] := by
  have := congrArg (fun b : ByteArray => b.data.toList) h
  simpa using this
theorem ba_eq {a b : ByteArray} {l m : List UInt8} (ha : a = ⟨l.toArray⟩) (hb : b = ⟨m.toArray⟩) (h : (a.toList == b.toList) = true) : l = m := by
  subst ha hb
  rw [ByteArray.toList_eq, ByteArray.toList_eq] at h
  simpa using h
theorem ba_ne {a b : ByteArray} {l m : List UInt8} (ha : a = ⟨l.toArray⟩) (hb : b = ⟨m.toArray⟩) (h : (a.toList == b.toList) = false) : l ≠ m := by
  subst ha hb
  rw [ByteArray.toList_eq, ByteArray.toList_eq] at h
  simpa using h
/-- What instr makes of a row's numbers. -/
theorem instr_of (p op : Int) (ns : List Int) (n : Nat) (v : Value) (base : Nat) (w : World) (hl : ns.length = n) (h3 : n = 0 ∨ n = 1 ∨ n = 3) (h : w.ownsRow base 3 1 v n (i64s ns)) :
    Calls Tryz.prog 56 #[.int .i64 p, .int .u8 op, v] w fun e w' => e = .returned (insOf p op ns).val ∧ Below w.heap.size w w' := by
  subst hl
  rcases h3 with h3 | h3 | h3
  · rw [h3] at h
    obtain rfl : ns = [] := List.eq_nil_of_length_eq_zero h3
    rcases h.2 with ⟨rfl, _⟩ | ⟨g, cap, cur, rfl, hb, hgg, hnc, hc, hcs, ht⟩
    · exact instr0 p op w
    · exact (instr0' p op g cap w)
  · match ns, h3 with
    | [a], _ =>
      obtain ⟨g, c, rfl, _⟩ := G.own_addr h (by simp)
      exact instr1 p op _ g c w (i64s_cell h (j := 0) (by simp))
  · match ns, h3 with
    | [a, a2, a3], _ =>
      obtain ⟨g, c, rfl, _⟩ := G.own_addr h (by simp)
      exact instr3 p op _ _ _ g c w (i64s_cell h (j := 0) (by simp)) (i64s_cell h (j := 1) (by simp)) (i64s_cell h (j := 2) (by simp))
structure RwI (W wr : World) (ops : List (List UInt8)) (q : Nat) (l : Value) (ns : List Int) : Prop where
  nums : numsL (ops.take q) = some ns
  own : wr.ownsRow W.heap.size 3 1 l q (i64s ns)
  bl : Below W.heap.size W wr
  le : q ≤ ops.length
theorem RwI.start (W : World) (ops : List (List UInt8)) : RwI W W ops 0 (.slice none 0 0) [] := ⟨rfl, World.ownsRow_nil _ _ _ _, Below.refl _ _, Nat.zero_le _⟩
theorem RwI.len {W wr : World} {ops : List (List UInt8)} {q : Nat} {l : Value} {ns : List Int} (h : RwI W wr ops q l ns) : ns.length = q := by
  have := rnums_len h.nums
  rw [List.length_take] at this
  have := h.le
  omega
theorem RwI.below {W wr w' : World} {ops : List (List UInt8)} {q : Nat} {l : Value} {ns : List Int} (h : RwI W wr ops q l ns) (hb : Below wr.heap.size wr w') : RwI W w' ops q l ns := ⟨h.nums, Bl.own h.own hb, Bl.tr h.bl hb, h.le⟩
theorem RwI.next {W wr w' : World} {ops : List (List UInt8)} {q : Nat} {l l' : Value} {ns : List Int} {n : Int} {o : Obj} (h : RwI W wr ops q l ns) (hq : q < ops.length) (hn : numL (ops.getD q []) = some n)
    (ho : w'.ownsRow W.heap.size 3 1 l' (q + 1) (i64s ns ++ [.int .i64 n])) (hg : (wr.alloc o).grownBy w' l.ownBlock) : RwI W w' ops (q + 1) l' (ns ++ [n]) := by
  refine ⟨?_, by rw [show i64s (ns ++ [n]) = i64s ns ++ [.int .i64 n] by simp [i64s]]; exact ho, Bl.grown (Bl.al h.bl _) (h.own.alloc _) hg, hq⟩
  have e : ops.take (q + 1) = ops.take q ++ [ops.getD q []] := by
    rw [List.take_succ_eq_append_getElem hq, List.getD_eq_getElem?_getD, List.getElem?_eq_getElem hq]
    rfl
  rw [e]
  exact rnums_snoc h.nums hn
theorem RwI.bad {W wr : World} {ops : List (List UInt8)} {q : Nat} {l : Value} {ns : List Int} (h : RwI W wr ops q l ns) (hq : q < ops.length) (hn : numL (ops.getD q []) = none) : numsL ops = none :=
  rnums_fail (by rw [List.getD_eq_getElem?_getD, List.getElem?_eq_getElem hq]; exact List.getElem_mem _) hn
set_option maxRecDepth 100000 in
set_option maxHeartbeats 8000000 in
theorem refRow_any (s : ByteArray) (w : World) (hs : s.size ≤ 16777216) : Calls Tryz.prog 17 #[.string s] w (RowP s.data.toList w) := by
  obtain ⟨i0, hi, hz0, hz1, hz2⟩ := info_parts info3
  have hsl : s.data.toList.length = s.size := by simp
  have HPA := Lib.hid (fun W => refParts_any s W hs)
  have HSH := Lib.hid (rowL_short (s := s.data.toList))
  have HLO := Lib.hid (rowL_long (s := s.data.toList))
  have hpl := splitC_len 32 s.data.toList
  have hpm := splitC_mem 32 s.data.toList
  rw [hsl] at hpl hpm
  have HPM := Lib.hid hpm
  obtain ⟨sl, hsl2⟩ : ∃ sl, sl = s.data.toList := ⟨_, rfl⟩
  rw [← hsl2] at HPA HSH HLO HPM hpl ⊢
  obtain ⟨PS, hPS⟩ : ∃ PS, PS = splitC 32 sl := ⟨_, rfl⟩
  rw [← hPS] at HPA HSH HLO HPM hpl
  clear hpm hPS hsl2 hsl
  go_enter Tryz.func17, Tryz.ntmps17
  go_wp2_with fail
  refine (HPA.out _).mono ?_
  rintro e w1 ⟨v1, rfl, ho1, hb1⟩
  have HO1 := Lib.hid ho1
  have HB1 := Lib.hid (Bl.tr (Bl.al (Below.refl _ w) _) hb1)
  have HX1 := Lib.hid ((G.Blk.new w 55 #[.int .i64 0, .int .u8 0, .int .i64 0, .int .i64 0, .int .i64 0]).below hb1 (by simp))
  obtain ⟨av, cv, rfl⟩ := G.own_shape ho1
  clear ho1 hb1
  by_cases hlen : PS.length < 2
  · have hlenI : (PS.length : Int) < 2 := by omega
    have HNO := Lib.hid (HSH.out hlen)
    have hc1 := HX1.out.cell
    have hf1 := HX1.out.frozen
    have hz := HX1.out.lt
    go_wp2_with fail
    exact bodyPost_ret (v := .tuple #[zeroIns.val, .bool false]) (by simp [results, Tryz.results17, go_sem, zeroIns, Ins.val, hc1, hz]) rfl
      (rowP_none HNO.out (by repeat (first | (with_reducible refine Bl.sc ?_ (by simp) _) | (with_reducible exact HB1.out))))
  · have hlenI : 2 ≤ (PS.length : Int) := by omega
    have HR := Lib.hid (HLO.out (by omega))
    clear HSH HLO
    refine G.own_use HO1.out (by omega) ?_
    intro g hg
    subst hg
    have HPC := Lib.hid (show ∀ W, Below w1.heap.size w1 W → ∀ j, j < PS.length → W.cell? ⟨g, j, none⟩ = some (.string ⟨(PS.getD j []).toArray⟩) from fun W hW j hj => by
      have h := (Bl.own HO1.out hW).cells (g := g) rfl j (.string ⟨(PS.getD j []).toArray⟩) (by
        unfold strsL
        rw [List.getElem?_map, List.getElem?_eq_getElem hj, List.getD_eq_getElem?_getD, List.getElem?_eq_getElem hj]
        rfl)
      have e : ((⟨g, 0, none⟩ : Addr).add j) = ⟨g, j, none⟩ := by
        unfold Addr.add
        by_cases j0 : j = 0
        · rw [if_pos j0, j0]
        · rw [if_neg j0]
          simp
      rwa [e] at h)
    have HNC := Lib.hid (fun j (hj : j < PS.length) W => refNumber_any ⟨(PS.getD j []).toArray⟩ W (by
      have h1 := HPM.out (PS.getD j []) (by rw [List.getD_eq_getElem?_getD, List.getElem?_eq_getElem hj]; exact List.getElem_mem _)
      show (PS.getD j []).length ≤ _
      omega))
    have hp0 := HPC.out w1 (Below.refl _ _) 0 (by omega)
    obtain ⟨Q0, hQ0⟩ : ∃ Q0 : ByteArray, Q0 = ⟨(PS.getD 0 []).toArray⟩ := ⟨_, rfl⟩
    have HN0 := Lib.hid (HNC.out 0 (by omega) w1)
    have HQ0 := Lib.hid (show Q0.data.toList = PS.getD 0 [] by rw [hQ0])
    rw [← hQ0] at hp0 HN0
    clear hQ0
    go_wp2_with fail
    refine HN0.out.mono ?_
    rintro e wx ⟨n0, ok0, rfl, rfl, hn0⟩
    rw [HQ0.out] at hn0
    have HN0' := Lib.hid hn0
    clear hn0 HN0
    go_wp2_with fail
    obtain ⟨nm, hnm⟩ : ∃ nm, nm = PS.getD 1 [] := ⟨_, rfl⟩
    have HNMQ := Lib.hid hnm
    go_loopw [7, 8] (fun op i wr => ∃ k : Nat, 1 ≤ k ∧ k ≤ 256 ∧ i = .int .i64 k ∧ op = .int .i64 (opTo nm k) ∧ Below wx.heap.size wx wr) (fun _ i _ => 256 - (intOf i).toNat)
    case atStart => exact ⟨1, by omega, by omega, rfl, by rfl, Below.refl _ _⟩
    case round =>
      obtain ⟨k, hk1, hk2, rfl, rfl, hbw⟩ := hrel
      have HBW := Lib.hid hbw
      clear hbw hp0
      by_cases hk : k < 256
      · have hkI : (k : Int) < 256 := by omega
        have hkI1 : 1 ≤ (k : Int) := by omega
        have hlp : (1 : Int) < PS.length := by omega
        have hwk : IntKind.u8.wrap (k : Int) = k := IntWalk.u8_in _ (by omega)
        have HNM := Lib.hid (fun W => (show Calls Tryz.prog 54 #[.int .u8 (IntKind.u8.wrap (k : Int))] W _ from by rw [hwk]; exact refName_any (k : Int) W (by omega) (by omega)))
        clear hwk
        have hp1 := HPC.out wr HBW.out 1 (by omega)
        obtain ⟨N1, hN1⟩ : ∃ N1 : ByteArray, N1 = ⟨(PS.getD 1 []).toArray⟩ := ⟨_, rfl⟩
        rw [← hN1] at hp1
        have HP1 := Lib.hid (show ∀ W, Below wx.heap.size wx W → W.cell? ⟨g, 1, none⟩ = some (.string N1) from fun W hW => by rw [hN1]; exact HPC.out W hW 1 (by omega))
        obtain ⟨NK, hNK⟩ : ∃ NK : ByteArray, NK = ⟨(nameOf (k : Int)).toArray⟩ := ⟨_, rfl⟩
        rw [← hNK] at HNM
        have HNKE := Lib.hid hNK
        have HN1E := Lib.hid hN1
        clear hNK hN1
        have kr : Below wx.heap.size wx wr := HBW.out
        obtain ⟨o7, ho7⟩ : ∃ o7, o7 = opTo nm k := ⟨_, rfl⟩
        rw [← ho7]
        have HO7 := Lib.hid ho7
        clear ho7
        by_cases h0 : NK = ⟨#[]⟩
        · subst h0
          go_wp2_with fail
          --<A
          refine wp_region_held_drew (S := FrN g N1 wx) (by kernel_rfl) ?_ (fun hHeld => ?_)
          · exact FrN.drew ⟨hp1, kr⟩
          refine wpAnyH_take (i := 0) (oi := ⟨some 32, _, _, _, _, _⟩) (v := ?_) rfl (by kernel_rfl) (by kernel_rfl) (by kernel_rfl) (fun _ _ _ h => h) (Or.inl ⟨by rfl, ?_⟩) (by assumption) ?_
          rotate_left
          · (intro w hSw; rfl)
          try simp only [Act.put, List.setIfInBounds_toArray, List.set_cons_zero, List.set_cons_succ]
          refine wpAnyH_take (i := 1) (oi := ⟨some 33, _, _, _, _, _⟩) (v := ?_) rfl (by kernel_rfl) (by kernel_rfl) (by kernel_rfl) (fun _ _ _ h => h) (Or.inl ⟨by rfl, ?_⟩) (by assumption) ?_
          rotate_left
          · (intro w hSw; rfl)
          try simp only [Act.put, List.setIfInBounds_toArray, List.set_cons_zero, List.set_cons_succ]
          refine wpAnyH_ready (rs := [2]) (by kernel_rfl) (by simp) ?_
          refine AllReadyH.cons rfl (fun K hK => ?_) AllReadyH.nil
          go_simp
          (refine (HNM.out _).mono ?_; rintro e w' ⟨rfl, hb⟩)
          go_wp2_with fail
          refine hK.out _ _ ?_ (fun hHeld => ?_)
          · exact FrN.keep hHeld hb
          clear hK K
          try simp only [Act.put, List.setIfInBounds_toArray, List.set_cons_zero, List.set_cons_succ]
          refine wpAnyH_take (i := 3) (oi := ⟨some 35, _, _, _, _, _⟩) (v := ?_) rfl (by kernel_rfl) (by kernel_rfl) (by kernel_rfl) (fun _ _ _ h => h) (Or.inl ⟨by rfl, ?_⟩) (by assumption) ?_
          rotate_left
          · (intro w hSw; unfold FrN at hSw; go_split_ands; go_simp; try with_reducible rfl)
          try simp only [Act.put, List.setIfInBounds_toArray, List.set_cons_zero, List.set_cons_succ]
          refine wpAnyH_take (i := 4) (oi := ⟨some 36, _, _, _, _, _⟩) (v := ?_) rfl (by kernel_rfl) (by kernel_rfl) (by kernel_rfl) (fun _ _ _ h => h) (Or.inl ⟨by rfl, ?_⟩) (by assumption) ?_
          rotate_left
          · (intro w hSw; rfl)
          try simp only [Act.put, List.setIfInBounds_toArray, List.set_cons_zero, List.set_cons_succ]
          refine wpAnyH_take (i := 5) (oi := ⟨some 37, _, _, _, _, _⟩) (v := undef) rfl (by kernel_rfl) (by kernel_rfl) (by kernel_rfl) (fun _ _ _ h => h) (Or.inr ⟨by rfl, rfl⟩) (by assumption) ?_
          try simp only [Act.put, List.setIfInBounds_toArray, List.set_cons_zero, List.set_cons_succ]
          refine wpAnyH_take (i := 6) (oi := ⟨some 38, _, _, _, _, _⟩) (v := undef) rfl (by kernel_rfl) (by kernel_rfl) (by kernel_rfl) (fun _ _ _ h => h) (Or.inr ⟨by rfl, rfl⟩) (by assumption) ?_
          try simp only [Act.put, List.setIfInBounds_toArray, List.set_cons_zero, List.set_cons_succ]
          refine wpAnyH_take (i := 7) (oi := ⟨some 39, _, _, _, _, _⟩) (v := undef) rfl (by kernel_rfl) (by kernel_rfl) (by kernel_rfl) (fun _ _ _ h => h) (Or.inr ⟨by rfl, rfl⟩) (by assumption) ?_
          try simp only [Act.put, List.setIfInBounds_toArray, List.set_cons_zero, List.set_cons_succ]
          refine wpAnyH_take (i := 8) (oi := ⟨some 40, _, _, _, _, _⟩) (v := undef) rfl (by kernel_rfl) (by kernel_rfl) (by kernel_rfl) (fun _ _ _ h => h) (Or.inr ⟨by rfl, rfl⟩) (by assumption) ?_
          try simp only [Act.put, List.setIfInBounds_toArray, List.set_cons_zero, List.set_cons_succ]
          refine wpAnyH_take (i := 9) (oi := ⟨some 41, _, _, _, _, _⟩) (v := undef) rfl (by kernel_rfl) (by kernel_rfl) (by kernel_rfl) (fun _ _ _ h => h) (Or.inr ⟨by rfl, rfl⟩) (by assumption) ?_
          try simp only [Act.put, List.setIfInBounds_toArray, List.set_cons_zero, List.set_cons_succ]
          refine wpAnyH_take (i := 10) (oi := ⟨some 42, _, _, _, _, _⟩) (v := undef) rfl (by kernel_rfl) (by kernel_rfl) (by kernel_rfl) (fun _ _ _ h => h) (Or.inr ⟨by rfl, rfl⟩) (by assumption) ?_
          try simp only [Act.put, List.setIfInBounds_toArray, List.set_cons_zero, List.set_cons_succ]
          refine wpAnyH_take (i := 11) (oi := ⟨some 43, _, _, _, _, _⟩) (v := undef) rfl (by kernel_rfl) (by kernel_rfl) (by kernel_rfl) (fun _ _ _ h => h) (Or.inr ⟨by rfl, rfl⟩) (by assumption) ?_
          try simp only [Act.put, List.setIfInBounds_toArray, List.set_cons_zero, List.set_cons_succ]
          refine wpAnyH_take (i := 12) (oi := ⟨some 44, _, _, _, _, _⟩) (v := ?_) rfl (by kernel_rfl) (by kernel_rfl) (by kernel_rfl) (fun _ _ _ h => h) (Or.inl ⟨by rfl, ?_⟩) (by assumption) ?_
          rotate_left
          · (intro w hSw; unfold FrN at hSw; go_split_ands; go_simp; try with_reducible rfl)
          try simp only [Act.put, List.setIfInBounds_toArray, List.set_cons_zero, List.set_cons_succ]
          refine wpAnyH_done (by kernel_rfl) ?_ _
          go_wp2_with fail
          --A>
          go_roundw
          case rel => exact ⟨k + 1, by omega, by omega, by go_num, by rw [HO7.out, opTo_miss (.inl (ba_nil HNKE.out.symm))], hHeld.2⟩
          case measure => simp [intOf]; omega
        · have h0b := ((empty_or NK).resolve_left h0).1
          have h0c : (!NK.toList.isEmpty) = true := by rw [h0b]; rfl
          go_wp2_with fail
          --<B
          refine wp_region_held_drew (S := FrN g N1 wx) (by kernel_rfl) ?_ (fun hHeld => ?_)
          · exact FrN.drew ⟨hp1, kr⟩
          refine wpAnyH_take (i := 0) (oi := ⟨some 32, _, _, _, _, _⟩) (v := ?_) rfl (by kernel_rfl) (by kernel_rfl) (by kernel_rfl) (fun _ _ _ h => h) (Or.inl ⟨by rfl, ?_⟩) (by assumption) ?_
          rotate_left
          · (intro w hSw; rfl)
          try simp only [Act.put, List.setIfInBounds_toArray, List.set_cons_zero, List.set_cons_succ]
          refine wpAnyH_take (i := 1) (oi := ⟨some 33, _, _, _, _, _⟩) (v := ?_) rfl (by kernel_rfl) (by kernel_rfl) (by kernel_rfl) (fun _ _ _ h => h) (Or.inl ⟨by rfl, ?_⟩) (by assumption) ?_
          rotate_left
          · (intro w hSw; rfl)
          try simp only [Act.put, List.setIfInBounds_toArray, List.set_cons_zero, List.set_cons_succ]
          refine wpAnyH_ready (rs := [2]) (by kernel_rfl) (by simp) ?_
          refine AllReadyH.cons rfl (fun K hK => ?_) AllReadyH.nil
          go_simp
          (refine (HNM.out _).mono ?_; rintro e w' ⟨rfl, hb⟩)
          go_wp2_with fail
          refine hK.out _ _ ?_ (fun hHeld => ?_)
          · exact FrN.keep hHeld hb
          clear hK K
          try simp only [Act.put, List.setIfInBounds_toArray, List.set_cons_zero, List.set_cons_succ]
          refine wpAnyH_take (i := 3) (oi := ⟨some 35, _, _, _, _, _⟩) (v := ?_) rfl (by kernel_rfl) (by kernel_rfl) (by kernel_rfl) (fun _ _ _ h => h) (Or.inl ⟨by rfl, ?_⟩) (by assumption) ?_
          rotate_left
          · (intro w hSw; unfold FrN at hSw; go_split_ands; go_simp; try with_reducible rfl)
          try simp only [Act.put, List.setIfInBounds_toArray, List.set_cons_zero, List.set_cons_succ]
          refine wpAnyH_take (i := 4) (oi := ⟨some 36, _, _, _, _, _⟩) (v := ?_) rfl (by kernel_rfl) (by kernel_rfl) (by kernel_rfl) (fun _ _ _ h => h) (Or.inl ⟨by rfl, ?_⟩) (by assumption) ?_
          rotate_left
          · (intro w hSw; rfl)
          try simp only [Act.put, List.setIfInBounds_toArray, List.set_cons_zero, List.set_cons_succ]
          refine wpAnyH_take (i := 5) (oi := ⟨some 37, _, _, _, _, _⟩) (v := ?_) rfl (by kernel_rfl) (by kernel_rfl) (by kernel_rfl) (fun _ _ _ h => h) (Or.inl ⟨by rfl, ?_⟩) (by assumption) ?_
          rotate_left
          · (intro w hSw; rfl)
          try simp only [Act.put, List.setIfInBounds_toArray, List.set_cons_zero, List.set_cons_succ]
          refine wpAnyH_take (i := 6) (oi := ⟨some 38, _, _, _, _, _⟩) (v := ?_) rfl (by kernel_rfl) (by kernel_rfl) (by kernel_rfl) (fun _ _ _ h => h) (Or.inl ⟨by rfl, ?_⟩) (by assumption) ?_
          rotate_left
          · (intro w hSw; rfl)
          try simp only [Act.put, List.setIfInBounds_toArray, List.set_cons_zero, List.set_cons_succ]
          refine wpAnyH_take (i := 8) (oi := ⟨some 40, _, _, _, _, _⟩) (v := ?_) rfl (by kernel_rfl) (by kernel_rfl) (by kernel_rfl) (fun _ _ _ h => h) (Or.inl ⟨by rfl, ?_⟩) (by assumption) ?_
          rotate_left
          · (intro w hSw; rfl)
          try simp only [Act.put, List.setIfInBounds_toArray, List.set_cons_zero, List.set_cons_succ]
          refine wpAnyH_take (i := 9) (oi := ⟨some 41, _, _, _, _, _⟩) (v := ?_) rfl (by kernel_rfl) (by kernel_rfl) (by kernel_rfl) (fun _ _ _ h => h) (Or.inl ⟨by rfl, ?_⟩) (by assumption) ?_
          rotate_left
          · (intro w hSw; unfold FrN at hSw; go_split_ands; go_simp; try with_reducible rfl)
          try simp only [Act.put, List.setIfInBounds_toArray, List.set_cons_zero, List.set_cons_succ]
          refine wpAnyH_take (i := 10) (oi := ⟨some 42, _, _, _, _, _⟩) (v := ?_) rfl (by kernel_rfl) (by kernel_rfl) (by kernel_rfl) (fun _ _ _ h => h) (Or.inl ⟨by rfl, ?_⟩) (by assumption) ?_
          rotate_left
          · (intro w hSw; unfold FrN at hSw; go_split_ands; go_simp; try with_reducible rfl)
          try simp only [Act.put, List.setIfInBounds_toArray, List.set_cons_zero, List.set_cons_succ]
          refine wpAnyH_ready (rs := [7]) (by kernel_rfl) (by simp) ?_
          refine AllReadyH.cons rfl (fun K hK => ?_) AllReadyH.nil
          go_simp
          (refine (HNM.out _).mono ?_; rintro e w' ⟨rfl, hb⟩)
          go_wp2_with fail
          refine hK.out _ _ ?_ (fun hHeld => ?_)
          · exact FrN.keep hHeld hb
          clear hK K
          try simp only [Act.put, List.setIfInBounds_toArray, List.set_cons_zero, List.set_cons_succ]
          refine wpAnyH_take (i := 11) (oi := ⟨some 43, _, _, _, _, _⟩) (v := ?_) rfl (by kernel_rfl) (by kernel_rfl) (by kernel_rfl) (fun _ _ _ h => h) (Or.inl ⟨by rfl, ?_⟩) (by assumption) ?_
          rotate_left
          · (intro w hSw; unfold FrN at hSw; go_split_ands; go_simp; try with_reducible rfl)
          try simp only [Act.put, List.setIfInBounds_toArray, List.set_cons_zero, List.set_cons_succ]
          refine wpAnyH_take (i := 12) (oi := ⟨some 44, _, _, _, _, _⟩) (v := ?_) rfl (by kernel_rfl) (by kernel_rfl) (by kernel_rfl) (fun _ _ _ h => h) (Or.inl ⟨by rfl, ?_⟩) (by assumption) ?_
          rotate_left
          · (intro w hSw; unfold FrN at hSw; go_split_ands; go_simp; try with_reducible rfl)
          try simp only [Act.put, List.setIfInBounds_toArray, List.set_cons_zero, List.set_cons_succ]
          refine wpAnyH_done (by kernel_rfl) ?_ _
          go_wp2_with fail
          --B>
          all_goals
            go_roundw
            case rel =>
              first
                | exact ⟨k + 1, by omega, by omega, by go_num, by rw [opTo_hit (k := k) (nm := nm) (by intro e; rw [e] at HNKE; exact h0 HNKE.out) (by rw [HNMQ.out]; exact ba_eq HNKE.out HN1E.out ‹_›)], hHeld.2⟩
                | exact ⟨k + 1, by omega, by omega, by go_num, by rw [HO7.out, opTo_miss (.inr (by rw [HNMQ.out]; exact ba_ne HNKE.out HN1E.out ‹_›))], hHeld.2⟩
            case measure => simp [intOf]; omega
      · have hk256 : k = 256 := by omega
        have hkI : ¬ (k : Int) < 256 := by omega
        have hob := opTo_bd nm 256 (Nat.le_refl _)
        have hfo := find_op nm
        rw [hk256]
        obtain ⟨o7, ho7⟩ : ∃ o7, o7 = opTo nm 256 := ⟨_, rfl⟩
        rw [← ho7] at hob hfo ⊢
        have HR2 := Lib.hid (show rowL sl = match table.find? (fun r => r.2.1 == nm) with | none => none | some r => rowWith r (PS.getD 0 []) (PS.drop 2) by rw [HNMQ.out]; exact HR.out)
        clear HR ho7 hk256
        have hrb : Below wx.heap.size wx wr := HBW.out
        have hwk : IntKind.u8.wrap o7 = o7 := IntWalk.u8_in _ (by omega)
        rcases hfo with ⟨hk0, hfn⟩ | ⟨hk0, hfs⟩
        · have HNO := Lib.hid (show rowL sl = none by rw [HR2.out, hfn])
          have HW := Lib.hid (wd_none o7 hob.1 hob.2 hk0)
          clear hfn hk0 HR2
          go_wp2_with fail
          try rw [hwk]
          refine (HW.out _).mono ?_
          rintro e w2 ⟨v2, rfl, hb2⟩
          have HX2 := Lib.hid (HX1.out.below (Bl.tr hrb hb2) HX1.out.lt)
          have HB2 := Lib.hid (Bl.tr (Bl.tr HB1.out hrb) hb2)
          have hc1 := HX2.out.cell
          have hf1 := HX2.out.frozen
          have hz := HX2.out.lt
          clear hb2 hrb
          cases ok0
          all_goals
            go_wp2_with fail
            exact bodyPost_ret (v := .tuple #[zeroIns.val, .bool false]) (by simp [results, Tryz.results17, go_sem, zeroIns, Ins.val, hc1, hz]) rfl
              (rowP_none HNO.out (by repeat (first | (with_reducible refine Bl.sc ?_ (by simp) _) | (with_reducible exact HB2.out))))
        · obtain ⟨kk, hkk⟩ : ∃ kk, kk = kindOf o7 := ⟨_, rfl⟩
          rw [← hkk] at hk0 hfs
          have hk4 : kk = 0 ∨ kk = 1 ∨ kk = 2 ∨ kk = 3 := by
            have := kind_or o7 hob.1 hob.2
            rw [← hkk] at this
            omega
          have har := arOf_widths kk hk0 hk4
          have HRW := Lib.hid (show rowL sl = rowWith (o7, nm, kk) (PS.getD 0 []) (PS.drop 2) by rw [HR2.out, hfs])
          have HW := Lib.hid (wd_some o7 hob.1 hob.2 kk hkk.symm hk0)
          obtain ⟨m, hm⟩ : ∃ m, m = (widthsOf kk).length := ⟨_, rfl⟩
          rw [← hm] at har HW
          have har3 : m = 0 ∨ m = 1 ∨ m = 3 := by rcases hk4 with h | h | h | h <;> (rw [hm, h]; decide)
          have HAR := Lib.hid har
          have HAR3 := Lib.hid har3
          have hm3 : m ≤ 3 := by omega
          clear hfs HR2 hkk hk0 hk4 har har3 hm
          go_wp2_with fail
          try rw [hwk]
          refine (HW.out _).mono ?_
          rintro e w2 ⟨v2, rfl, ho2, hb2⟩
          obtain ⟨av2, cv2, rfl⟩ := own_shape ho2
          have HX2 := Lib.hid (HX1.out.below (Bl.tr hrb hb2) HX1.out.lt)
          have HB2 := Lib.hid (Bl.tr (Bl.tr HB1.out hrb) hb2)
          have HBX := Lib.hid (Bl.tr hrb hb2)
          clear ho2 hb2 hrb hwk HW
          have hc1 := HX2.out.cell
          have hf1 := HX2.out.frozen
          have hz := HX2.out.lt
          have hm0 : (0 : Int) ≤ m := by omega
          cases ok0
          · have HNO := Lib.hid (show rowL sl = none by
              rw [HRW.out]
              unfold rowWith
              have h := HN0'.out
              cases hq : numL (PS.getD 0 []) with
              | none => rfl
              | some b => rw [hq] at h; exact absurd h.1 (by simp))
            go_wp2_with fail
            exact bodyPost_ret (v := .tuple #[zeroIns.val, .bool false]) (by simp [results, Tryz.results17, go_sem, zeroIns, Ins.val, hc1, hz]) rfl
              (rowP_none HNO.out (by repeat (first | (with_reducible refine Bl.sc ?_ (by simp) _) | (with_reducible exact HB2.out))))
          · have HA0 := Lib.hid (show numL (PS.getD 0 []) = some n0 by
              have h := HN0'.out
              cases hq : numL (PS.getD 0 []) with
              | none => rw [hq] at h; exact absurd h (by simp)
              | some b => rw [hq] at h; rw [h.2])
            by_cases hln : PS.length = 2 + m
            · have hlnI : ((PS.length : Int) != 2 + (m : Int)) = false := by
                have : (PS.length : Int) = 2 + (m : Int) := by omega
                rw [this]
                simp
              have HLN := Lib.hid (show (PS.drop 2).length = m by rw [List.length_drop]; omega)
              have hPl : (PS.length : Int) = 2 + (m : Int) := by omega
              have HPl := Lib.hid hPl
              have hPl2 := hln
              clear hln hPl
              go_wp2_with fail
              obtain ⟨wo, hwo⟩ : ∃ wo : World, wo = wr := ⟨_, rfl⟩
              subst hwo
              go_loopw [11, 12] (fun l4 i wr => ∃ q ns, i = .int .i64 ((q : Nat) : Int) ∧ RwI w2 wr (PS.drop 2) q l4 ns) (fun _ i _ => m - (intOf i).toNat)
              case atStart => exact ⟨0, [], rfl, RwI.start _ _⟩
              case round =>
                obtain ⟨q, ns, rfl, hrw⟩ := hrel
                have HRI := Lib.hid hrw
                have hql := hrw.le
                rw [HLN.out] at hql
                clear hrw
                have hq0 : (0 : Int) ≤ q := by omega
                by_cases hq : q < m
                · have hqI : (q : Int) < m := by omega
                  have h2q : (0 : Int) ≤ 2 + q := by omega
                  have h2l : (2 : Int) + q < PS.length := by omega
                  have hpq := HPC.out wr (Bl.tr HBX.out HRI.out.bl) (2 + q) (by omega)
                  obtain ⟨Q, hQ⟩ : ∃ Q : ByteArray, Q = ⟨(PS.getD (2 + q) []).toArray⟩ := ⟨_, rfl⟩
                  have HN := Lib.hid (HNC.out (2 + q) (by omega))
                  rw [← hQ] at hpq HN
                  have HGQ := Lib.hid (show PS.getD (2 + q) [] = (PS.drop 2).getD q [] by rw [List.getD_eq_getElem?_getD, List.getD_eq_getElem?_getD, List.getElem?_drop])
                  rw [HGQ.out] at HN
                  clear hQ
                  go_wp2_with fail
                  refine (HN.out _).mono ?_
                  rintro e wx2 ⟨n1, ok1, rfl, rfl, hn1⟩
                  have HN1 := Lib.hid hn1
                  clear hn1
                  cases ok1
                  · have HNO := Lib.hid (show rowL sl = none by
                      rw [HRW.out]
                      unfold rowWith
                      rw [HA0.out]
                      simp only
                      rw [if_neg (by rw [HLN.out]; have := HAR.out; omega), HRI.out.bad (by rw [HLN.out]; exact hq) (by
                        have h := HN1.out
                        cases hq : numL ((PS.drop 2).getD q []) with
                        | none => rfl
                        | some b => rw [hq] at h; exact absurd h.1 (by simp))])
                    have HX3 := Lib.hid (HX2.out.below HRI.out.bl HX2.out.lt)
                    have HB3 := Lib.hid (Bl.tr HB2.out HRI.out.bl)
                    have hc1 := HX3.out.cell
                    have hf1 := HX3.out.frozen
                    have hz := HX3.out.lt
                    go_wp2_with fail
                    exact bodyPost_ret (v := .tuple #[zeroIns.val, .bool false]) (by simp [results, Tryz.results17, go_sem, zeroIns, Ins.val, hc1, hz]) rfl
                      (rowP_none HNO.out (by repeat (first | (with_reducible refine Bl.sc ?_ (by simp) _) | (with_reducible exact HB3.out))))
                  · have HOK := Lib.hid (show numL ((PS.drop 2).getD q []) = some n1 by
                      have h := HN1.out
                      cases hq : numL ((PS.drop 2).getD q []) with
                      | none => rw [hq] at h; exact absurd h (by simp)
                      | some b => rw [hq] at h; rw [h.2])
                    go_wp2_with (at_builtin; refine wpList_append_own _ rfl (.tmp 85) (.tmp 87) 88 rfl w2.heap.size 3 i0 (.int .i64 0) 1 8 Tryz.underlying88 hi hz0 hz1 hz2 rfl (by decide) _ _ _ rfl (HRI.out.own.alloc _) ⟨wx2.heap.size, 0, none⟩ 1 1 [.int .i64 n1] rfl rfl (cells_new _ _ _ _ rfl) (ints_oneCell .i64 [_]) (by unfold maxLen; omega) (by omega) (by have := HRI.out.bl.size; simp; omega) ?_; intro l' w3 hown3 hg3 _q; have HNX := Lib.hid (HRI.out.next (by rw [HLN.out]; exact hq) HOK.out hown3 hg3); clear hown3 hg3)
                    go_roundw
                    case rel => exact ⟨q + 1, ns ++ [n1], by go_num, HNX.out⟩
                    case measure => simp [intOf] <;> omega
                · have hqm : q = m := by omega
                  have hqI : ¬ (q : Int) < m := by omega
                  have HSM := Lib.hid (show rowL sl = some (insOf n0 o7 ns) by
                    have hn := HRI.out.nums
                    rw [List.take_of_length_le (by rw [HLN.out]; omega)] at hn
                    rw [HRW.out]
                    unfold rowWith
                    rw [HA0.out]
                    simp only
                    rw [if_neg (by rw [HLN.out]; have := HAR.out; omega), hn])
                  obtain ⟨res, hres⟩ : ∃ res, res = insOf n0 o7 ns := ⟨_, rfl⟩
                  have HIN := Lib.hid (fun W h => instr_of n0 o7 ns q u11 w2.heap.size W HRI.out.len (by have := HAR3.out; omega) h)
                  rw [← hres] at HSM HIN
                  obtain ⟨ra, ro, r1, r2, r3⟩ := res
                  simp only [Ins.val] at HIN
                  have HO4 := Lib.hid HRI.out.own
                  clear hres
                  subst hqm
                  go_wp2_with fail
                  refine (HIN.out _ HO4.out).mono ?_
                  rintro e w4 ⟨rfl, hb4⟩
                  have HX3 := Lib.hid (HX2.out.below (Bl.tr HRI.out.bl hb4) HX2.out.lt)
                  have HB3 := Lib.hid (Bl.tr (Bl.tr HB2.out HRI.out.bl) hb4)
                  have hc1 := HX3.out.cell
                  have hf1 := HX3.out.frozen
                  have hz := HX3.out.lt
                  clear hb4
                  go_wp2_with fail
                  exact bodyPost_ret (v := .tuple #[(Ins.mk ra ro r1 r2 r3).val, .bool true]) (by simp [results, Tryz.results17, go_sem, Ins.val, hc1, hz]) rfl
                    (rowP_some HSM.out (by repeat (first | (with_reducible refine Bl.sc ?_ (by simp) _) | (with_reducible exact HB3.out))))
            · have hlnI : ((PS.length : Int) != 2 + (m : Int)) = true := by
                rw [bne_iff_ne]
                omega
              have HNO := Lib.hid (show rowL sl = none by
                rw [HRW.out]
                unfold rowWith
                rw [HA0.out]
                simp only
                rw [if_pos (by rw [List.length_drop]; have := HAR.out; omega)])
              go_wp2_with fail
              exact bodyPost_ret (v := .tuple #[zeroIns.val, .bool false]) (by simp [results, Tryz.results17, go_sem, zeroIns, Ins.val, hc1, hz]) rfl
                (rowP_none HNO.out (by repeat (first | (with_reducible refine Bl.sc ?_ (by simp) _) | (with_reducible exact HB2.out))))
end
end Go.Proofs.YtfldicaaaadgaaaGreatDoor.Code

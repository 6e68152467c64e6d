/- The contracts of the reference's instr, Read and All. -/
import Derived.Test.YtfldicaaaadgaaaDoorCRefB
import Derived.Test.YtfldicaaaadgaaaDoorStores
import Derived.Test.YtfldicaaaadgaaaDoorWideInt
import Derived.Handy
namespace Go.Proofs.YtfldicaaaadgaaaDoor.Code
open Go.RowKit
set_option linter.unusedVariables false
set_option linter.unusedSimpArgs false
set_option maxHeartbeats 1000000 in
theorem instr0 (p op : Int) (w : World) : Calls Tryd.prog 35 #[.int .i64 p, .int .u8 op, .slice none 0 0] w fun e w' => e = .returned (Ins.mk p op 0 0 0).val ∧ Below w.heap.size w w' := by
  go_enter Tryd.func35, Tryd.ntmps35
  go_wp2
  exact bodyPost_ret (v := (Ins.mk p op 0 0 0).val) (by simp [results, Tryd.results35, go_sem, Ins.val]) rfl ⟨rfl, by repeat (first | (with_reducible apply Bl.al) | (with_reducible refine Bl.sc ?_ (by simp) _) | (with_reducible exact Below.refl _ _))⟩
set_option maxHeartbeats 1000000 in
theorem instr0' (p op : Int) (g c : Nat) (w : World) : Calls Tryd.prog 35 #[.int .i64 p, .int .u8 op, .slice (some ⟨g, 0, none⟩) 0 c] w fun e w' => e = .returned (Ins.mk p op 0 0 0).val ∧ Below w.heap.size w w' := by
  go_enter Tryd.func35, Tryd.ntmps35
  go_wp2
  exact bodyPost_ret (v := (Ins.mk p op 0 0 0).val) (by simp [results, Tryd.results35, go_sem, Ins.val]) rfl ⟨rfl, by repeat (first | (with_reducible apply Bl.al) | (with_reducible refine Bl.sc ?_ (by simp) _) | (with_reducible exact Below.refl _ _))⟩
set_option maxHeartbeats 1000000 in
theorem instr1 (p op a : Int) (g c : Nat) (w : World) (hc : w.cell? ⟨g, 0, none⟩ = some (.int .i64 a)) : Calls Tryd.prog 35 #[.int .i64 p, .int .u8 op, .slice (some ⟨g, 0, none⟩) 1 c] w fun e w' => e = .returned (Ins.mk p op a 0 0).val ∧ Below w.heap.size w w' := by
  have hg : g < w.heap.size := World.block_lt_of_cell? _ _ hc
  go_enter Tryd.func35, Tryd.ntmps35
  go_wp2
  exact bodyPost_ret (v := (Ins.mk p op a 0 0).val) (by simp [results, Tryd.results35, go_sem, Ins.val]) rfl ⟨rfl, by repeat (first | (with_reducible apply Bl.al) | (with_reducible refine Bl.sc ?_ (by simp) _) | (with_reducible exact Below.refl _ _))⟩
set_option maxHeartbeats 1000000 in
theorem instr3 (p op a a2 a3 : Int) (g c : Nat) (w : World) (hc : w.cell? ⟨g, 0, none⟩ = some (.int .i64 a)) (hc1 : w.cell? ⟨g, 1, none⟩ = some (.int .i64 a2)) (hc2 : w.cell? ⟨g, 2, none⟩ = some (.int .i64 a3)) :
    Calls Tryd.prog 35 #[.int .i64 p, .int .u8 op, .slice (some ⟨g, 0, none⟩) 3 c] w fun e w' => e = .returned (Ins.mk p op a a2 a3).val ∧ Below w.heap.size w w' := by
  have hg : g < w.heap.size := World.block_lt_of_cell? _ _ hc
  go_enter Tryd.func35, Tryd.ntmps35
  go_wp2
  exact bodyPost_ret (v := (Ins.mk p op a a2 a3).val) (by simp [results, Tryd.results35, go_sem, Ins.val]) rfl ⟨rfl, by repeat (first | (with_reducible apply Bl.al) | (with_reducible refine Bl.sc ?_ (by simp) _) | (with_reducible exact Below.refl _ _))⟩
def numsAt (zs : List Int) (i : Nat) (k : Int) : List Int := if k = 1 then [zs.getD (i + 1) 0] else if k = 2 then [zs.getD (i + 1) 0 * 256 + zs.getD (i + 2) 0] else if k = 3 then [zs.getD (i + 1) 0, zs.getD (i + 2) 0, zs.getD (i + 3) 0 * 256 + zs.getD (i + 4) 0] else []
def offAt (k : Int) (j : Nat) : Nat := if k = 3 then (if j = 3 then 4 else j) else if k = 2 then 2 * j else j
theorem nums_at (zs : List Int) (i : Nat) (k : Int) (hk : k = 0 ∨ k = 1 ∨ k = 2 ∨ k = 3) (j : Nat) (hj : j < (widthsOf k).length) (hl : (i : Int) + 1 + width k ≤ zs.length) :
    ((widthsOf k).getD j 0 = 1 ∧ i + 1 + offAt k j < zs.length ∧ (numsAt zs i k).getD j 0 = zs.getD (i + 1 + offAt k j) 0 ∧ offAt k (j + 1) = offAt k j + 1) ∨
    ((widthsOf k).getD j 0 = 2 ∧ i + 1 + offAt k j + 1 < zs.length ∧ (numsAt zs i k).getD j 0 = 256 * zs.getD (i + 1 + offAt k j) 0 + zs.getD (i + 1 + offAt k j + 1) 0 ∧ offAt k (j + 1) = offAt k j + 2) := by
  rcases hk with rfl | rfl | rfl | rfl
  · simp [widthsOf] at hj
  · obtain rfl : j = 0 := by simp [widthsOf] at hj; omega
    simp [width] at hl
    exact .inl ⟨rfl, by simp [offAt]; omega, by simp [numsAt, offAt], rfl⟩
  · obtain rfl : j = 0 := by simp [widthsOf] at hj; omega
    simp [width] at hl
    exact .inr ⟨rfl, by simp [offAt]; omega, by simp [numsAt, offAt]; omega, rfl⟩
  · have : j = 0 ∨ j = 1 ∨ j = 2 := by simp [widthsOf] at hj; omega
    simp [width] at hl
    rcases this with rfl | rfl | rfl
    · exact .inl ⟨rfl, by simp [offAt]; omega, by simp [numsAt, offAt], rfl⟩
    · exact .inl ⟨rfl, by simp [offAt]; omega, by simp [numsAt, offAt], rfl⟩
    · exact .inr ⟨rfl, by simp [offAt]; omega, by simp [numsAt, offAt, Nat.add_assoc]; omega, rfl⟩
theorem nums_length (zs : List Int) (i : Nat) (k : Int) : (numsAt zs i k).length = (widthsOf k).length := by
  unfold numsAt widthsOf
  (repeat' split) <;> rfl
set_option maxHeartbeats 1000000 in
theorem refRead_out (ao : Option Addr) (n cap : Nat) (p : Int) (w : World) (hn : n ≤ maxLen) (h : p < 0 ∨ (n : Int) ≤ p) :
    Calls Tryd.prog 11 #[.slice ao n cap, .int .i64 p] w fun e w' => e = .returned (.tuple #[zeroIns.val, .int .i64 1]) ∧ Below w.heap.size w w' := by
  unfold maxLen at hn
  rcases h with h | h
  · go_enter Tryd.func11, Tryd.ntmps11
    go_wp2
    exact bodyPost_ret (v := .tuple #[zeroIns.val, .int .i64 1]) (by simp [results, Tryd.results11, go_sem, zeroIns, Ins.val]) rfl ⟨rfl, by repeat (first | (with_reducible apply Bl.al) | (with_reducible refine Bl.sc ?_ (by simp) _) | (with_reducible exact Below.refl _ _))⟩
  · have h' : ¬ p < 0 := by omega
    go_enter Tryd.func11, Tryd.ntmps11
    go_wp2
    exact bodyPost_ret (v := .tuple #[zeroIns.val, .int .i64 1]) (by simp [results, Tryd.results11, go_sem, zeroIns, Ins.val]) rfl ⟨rfl, by repeat (first | (with_reducible apply Bl.al) | (with_reducible refine Bl.sc ?_ (by simp) _) | (with_reducible exact Below.refl _ _))⟩
theorem wd_some (op : Int) (h0 : 0 ≤ op) (h1 : op < 256) (k : Int) (hk : kindOf op = k) (hk0 : 0 ≤ k) (w : World) :
    Calls Tryd.prog 34 #[.int .u8 op] w fun e w' => ∃ v, e = .returned (.tuple #[v, .bool true]) ∧ w'.ownsRow w.heap.size 3 1 v (widthsOf k).length (i64s (widthsOf k)) ∧ Below w.heap.size w w' := by
  refine (Widths_any op w h0 h1).mono fun e w' h => ?_
  unfold WdPost at h
  rw [hk] at h
  have hd : decide (0 ≤ k) = true := by simpa using hk0
  rw [hd] at h
  exact h
theorem wd_none (op : Int) (h0 : 0 ≤ op) (h1 : op < 256) (hk : kindOf op < 0) (w : World) :
    Calls Tryd.prog 34 #[.int .u8 op] w fun e w' => ∃ v, e = .returned (.tuple #[v, .bool false]) ∧ Below w.heap.size w w' := by
  refine (Widths_any op w h0 h1).mono fun e w' h => ?_
  unfold WdPost at h
  have hd : decide (0 ≤ kindOf op) = false := by simpa using hk
  rw [hd] at h
  obtain ⟨v, h1, _, h3⟩ := h
  exact ⟨v, h1, h3⟩
set_option maxHeartbeats 1000000 in
theorem refRead_no (b off n cap i : Nat) (op : Int) (w : World) (hm : n ≤ 9223372036854775807) (hi : i < n) (hb : b < w.heap.size) (hc : w.cell? ⟨b, off + i, none⟩ = some (.int .u8 op)) (h0 : 0 ≤ op) (h1 : op < 256) (hk : kindOf op < 0) :
    Calls Tryd.prog 11 #[.slice (some ⟨b, off, none⟩) n cap, .int .i64 (i : Int)] w fun e w' => e = .returned (.tuple #[zeroIns.val, .int .i64 40]) ∧ Below w.heap.size w w' := by
  have HK := Lib.hid (wd_none op h0 h1 hk)
  clear hk h0 h1
  have h1 : ¬ (n : Int) ≤ i := by omega
  have h2 : ¬ (i : Int) < 0 := by omega
  go_enter Tryd.func11, Tryd.ntmps11
  go_wp2_with (go_at_call 34; refine (HK.out _).mono ?_; rintro e w1 ⟨v, rfl, hb1⟩; obtain ⟨hc1, hf1⟩ := bcell hb1; have hz : w.heap.size < w1.heap.size := by (have := hb1.size; simp at this; omega))
  exact bodyPost_ret (v := .tuple #[zeroIns.val, .int .i64 40]) (by simp [results, Tryd.results11, go_sem, zeroIns, Ins.val, hc1, hz]) rfl
    ⟨rfl, by repeat (first | (with_reducible apply Bl.al) | (with_reducible refine Bl.sc ?_ (by simp) _) | (with_reducible exact Bl.tr (Bl.al (Below.refl _ _) _) hb1))⟩
set_option maxHeartbeats 1000000 in
theorem refRead_cut (b off n cap i : Nat) (op k : Int) (w : World) (hm : n ≤ 1099511627776) (hi : i < n) (hb : b < w.heap.size) (hc : w.cell? ⟨b, off + i, none⟩ = some (.int .u8 op)) (h0 : 0 ≤ op) (h1 : op < 256) (hk : kindOf op = k) (hk4 : k = 0 ∨ k = 1 ∨ k = 2 ∨ k = 3)
    (hw : (n : Int) - i - 1 < width k) :
    Calls Tryd.prog 11 #[.slice (some ⟨b, off, none⟩) n cap, .int .i64 (i : Int)] w fun e w' => e = .returned (.tuple #[zeroIns.val, .int .i64 41]) ∧ Below w.heap.size w w' := by
  have HK := Lib.hid (wd_some op h0 h1 k hk (by omega))
  have hs : sizeOf op = 1 + width k := by unfold sizeOf; rw [hk, if_neg (by omega)]
  have hwd := width_le k
  have HS := Lib.hid (fun W => refSize_any op W h0 h1)
  rw [hs] at HS
  clear hk h0 h1 hs
  have h1 : ¬ (n : Int) ≤ i := by omega
  have h2 : ¬ (i : Int) < 0 := by omega
  have h3 : (n : Int) < i + (1 + width k) := by omega
  generalize width k = wk at *
  go_enter Tryd.func11, Tryd.ntmps11
  go_wp2_with (first
    | (go_at_call 34; refine (HK.out _).mono ?_; rintro e w1 ⟨v, rfl, ho1, hb1⟩; obtain ⟨hc1, hf1⟩ := bcell hb1; have hz : w.heap.size < w1.heap.size := (by have := hb1.size; simp at this; omega); have hB1 := Bl.tr (Bl.al (Below.refl _ w) _) hb1; have hci := (hB1.cell (p := ⟨b, off + i, none⟩) hb).trans hc)
    | (go_at_call 28; refine (HS.out _).mono ?_; rintro e w2 ⟨rfl, hb2⟩; obtain ⟨hc2, hf2⟩ := bcell hb2; have hz2 : w.heap.size < w2.heap.size := (by have := hb2.size; omega)))
  exact bodyPost_ret (v := .tuple #[zeroIns.val, .int .i64 41]) (by simp [results, Tryd.results11, go_sem, zeroIns, Ins.val, hc1, hz, hc2, hz2]) rfl
    ⟨rfl, by repeat (first | (with_reducible apply Bl.al) | (with_reducible refine Bl.sc ?_ (by simp) _) | (with_reducible exact Bl.tr hB1 hb2))⟩
theorem i64s_cell {w : World} {base g c n j : Nat} {ws : List Int} (h : w.ownsRow base 3 1 (.slice (some ⟨g, 0, none⟩) n c) n (i64s ws)) (hj : j < ws.length) : w.cell? ⟨g, j, none⟩ = some (.int .i64 (ws.getD j 0)) :=
  G.own_cell h (G.cells_getD hj)
/-- What instr makes of the numbers of a kind. -/
theorem instr_nums (p op : Int) (k : Int) (hk : k = 0 ∨ k = 1 ∨ k = 2 ∨ k = 3) (zs : List Int) (i : Nat) (v : Value) (base : Nat) (w : World) (h : w.ownsRow base 3 1 v (widthsOf k).length (i64s (numsAt zs i k))) :
    Calls Tryd.prog 35 #[.int .i64 p, .int .u8 op, v] w fun e w' => e = .returned (Ins.mk p op ((numsAt zs i k).getD 0 0) ((numsAt zs i k).getD 1 0) ((numsAt zs i k).getD 2 0)).val ∧ Below w.heap.size w w' := by
  rcases hk with rfl | rfl | rfl | rfl
  · rcases h.2 with ⟨rfl, _⟩ | ⟨g, cap, cur, rfl, hb, hgg, hnc, hc, hcs, ht⟩
    · exact instr0 p op w
    · exact (instr0' p op g cap w)
  · obtain ⟨g, c, rfl, _⟩ := G.own_addr h (by decide)
    exact instr1 p op _ g c w (i64s_cell h (j := 0) (by simp [numsAt]))
  · obtain ⟨g, c, rfl, _⟩ := G.own_addr h (by decide)
    exact instr1 p op _ g c w (i64s_cell h (j := 0) (by simp [numsAt]))
  · obtain ⟨g, c, rfl, _⟩ := G.own_addr h (by decide)
    exact instr3 p op _ _ _ g c w (i64s_cell h (j := 0) (by simp [numsAt])) (i64s_cell h (j := 1) (by simp [numsAt])) (i64s_cell h (j := 2) (by simp [numsAt]))
theorem info3 : (Tryd.prog.info? 3).map (fun i => (i.zero, i.size, i.bytes)) = some (some (.int .i64 0), 1, 8) := by kernel_rfl
theorem take_snoc (l : List Int) {j : Nat} (h : j < l.length) : i64s (l.take (j + 1)) = i64s (l.take j) ++ [.int .i64 (l.getD j 0)] := by
  rw [List.take_succ_eq_append_getElem h, i64s, List.map_append]
  simp [i64s, List.getD_eq_getElem?_getD, List.getElem?_eq_getElem h]
set_option maxRecDepth 100000 in
set_option maxHeartbeats 4000000 in
theorem refRead_ok (b off cap i : Nat) (zs : List Int) (op k : Int) (w : World) (hm : zs.length ≤ 1099511627776) (hi : i < zs.length) (hr : RdI w .u8 b off zs) (hz : IsBytes zs) (hop : zs.getD i 0 = op) (hk : kindOf op = k) (hk4 : k = 0 ∨ k = 1 ∨ k = 2 ∨ k = 3)
    (hw : ¬ (zs.length : Int) - i - 1 < width k) :
    Calls Tryd.prog 11 #[.slice (some ⟨b, off, none⟩) zs.length cap, .int .i64 (i : Int)] w fun e w' => e = .returned (.tuple #[(Ins.mk i op ((numsAt zs i k).getD 0 0) ((numsAt zs i k).getD 1 0) ((numsAt zs i k).getD 2 0)).val, .int .i64 0]) ∧ Below w.heap.size w w' := by
  obtain ⟨i0, hi0, iz0, iz1, iz2⟩ := info_parts info3
  have h0 : 0 ≤ op := by rw [← hop]; exact (hz i).1
  have h1 : op < 256 := by rw [← hop]; exact (hz i).2
  have HK := Lib.hid (wd_some op h0 h1 k hk (by omega))
  have hs : sizeOf op = 1 + width k := by unfold sizeOf; rw [hk, if_neg (by omega)]
  have hwd := width_le k
  have HS := Lib.hid (fun W => refSize_any op W h0 h1)
  rw [hs] at HS
  have HN := Lib.hid (fun j hj => nums_at zs i k hk4 j hj (by omega))
  have HL := Lib.hid (nums_length zs i k)
  have HI := Lib.hid (fun v base w h => instr_nums i op k hk4 zs i v base w h)
  have hlen3 := (widths_bd k).1
  have HR := Lib.hid hr
  have hb := hr.1
  have hc := hr.2 i hi
  rw [hop] at hc
  have HZ := Lib.hid hz
  obtain ⟨n, hn⟩ : ∃ n, n = zs.length := ⟨_, rfl⟩
  rw [← hn] at hm hi hw ⊢
  have HNN := Lib.hid hn
  obtain ⟨ws, hws⟩ : ∃ ws, ws = widthsOf k := ⟨_, rfl⟩
  rw [← hws] at HK HN HL HI hlen3
  obtain ⟨vals, hvals⟩ : ∃ vals, vals = numsAt zs i k := ⟨_, rfl⟩
  rw [← hvals] at HN HL HI ⊢
  have hoff : offAt k 0 = 0 := by unfold offAt; split <;> (try split) <;> omega
  have HOFF := Lib.hid hoff
  obtain ⟨off2, hoff2⟩ : ∃ f, f = offAt k := ⟨_, rfl⟩
  rw [← hoff2] at HN HOFF
  clear hk h0 h1 hs hr hz hop hn hws hvals hk4 hoff hoff2
  have h1 : ¬ (n : Int) ≤ i := by omega
  have h2 : ¬ (i : Int) < 0 := by omega
  have h3 : ¬ (n : Int) < i + (1 + width k) := by omega
  generalize width k = wk at *
  generalize (Ins.mk i op (vals.getD 0 0) (vals.getD 1 0) (vals.getD 2 0)) = res at *
  obtain ⟨ra, ro, r1, r2, r3⟩ := res
  simp only [Ins.val] at HI ⊢
  go_enter Tryd.func11, Tryd.ntmps11
  go_wp2_with (first
    | (go_at_call 34; refine (HK.out _).mono ?_; rintro e w1 ⟨v, rfl, ho1, hb1⟩; obtain ⟨av, cv, hv⟩ := own_shape ho1; subst hv; obtain ⟨hc1, hf1⟩ := bcell hb1; have hz : w.heap.size < w1.heap.size := (by have := hb1.size; simp at this; omega); have hB1 := Bl.tr (Bl.al (Below.refl _ w) _) hb1; have hci := (hB1.cell (p := ⟨b, off + i, none⟩) hb).trans hc; have HO1 := Lib.hid ho1; clear ho1)
    | (go_at_call 28; refine (HS.out _).mono ?_; rintro e w2 ⟨rfl, hb2⟩; obtain ⟨hc2, hf2⟩ := bcell hb2; have hz2 : w.heap.size < w2.heap.size := (by have := hb2.size; omega); have hB2 := Lib.hid (Bl.tr hB1 hb2); have HO2 := Lib.hid (Bl.own HO1.out hb2)))
  go_loopw [8, 9, 10] (fun l kk j wr => ∃ q p : Nat, q ≤ ws.length ∧ j = .int .i64 q ∧ kk = .int .i64 p ∧ p = i + 1 + off2 q ∧ Below w2.heap.size w2 wr ∧ wr.ownsRow w2.heap.size 3 1 l q (i64s (vals.take q))) (fun _ _ j _ => ws.length - (intOf j).toNat)
  case atStart => exact ⟨0, i + 1, Nat.zero_le _, rfl, rfl, by rw [HOFF.out], Below.refl _ _, World.ownsRow_nil _ _ _ _⟩
  case round =>
    obtain ⟨q, p, hq, rfl, rfl, hp, hbel, hown⟩ := hrel
    have h0q : (0 : Int) ≤ q := by omega
    have h0p : (0 : Int) ≤ p := by omega
    have HP := Lib.hid hp
    clear hp
    by_cases hql : q < ws.length
    · have hB := Bl.tr hB2.out hbel
      have hrw := (HR.out.below hB).2
      have hvq := take_snoc vals (j := q) (by rw [HL.out]; exact hql)
      have HOWN := Lib.hid hown
      have HBEL := Lib.hid hbel
      refine G.own_use HO2.out (by omega) ?_
      intro gw hgw
      subst hgw
      have hwc := i64s_cell HO2.out hql
      have hgw2 := World.block_lt_of_cell? _ _ hwc
      have hwr1 := (hbel.cell (p := ⟨gw, q, none⟩) hgw2).trans hwc
      have hq3 : (q : Int) < ws.length := by omega
      rcases HN.out q hql with ⟨e1, e2, e3, e4⟩ | ⟨e1, e2, e3, e4⟩
      · rw [← HP.out] at e2 e3
        have hcp := hrw p e2
        have hzz := HZ.out p
        rw [e1] at hwc hwr1
        rw [e3] at hvq
        have HVQ := Lib.hid hvq
        have HE4 := Lib.hid e4
        rw [← HNN.out] at e2
        clear hown hbel hrw hvq e1 e3 e4 hB
        generalize zs.getD p 0 = z at *
        go_wp2_with (at_builtin; refine wpList_append_own _ rfl (.tmp 70) (.tmp 72) 71 rfl w2.heap.size 3 i0 (.int .i64 0) 1 8 Tryd.underlying71 hi0 iz0 iz1 iz2 rfl (by decide) _ _ _ rfl (HOWN.out.alloc _) ⟨wr.heap.size, 0, none⟩ 1 1 [.int .i64 z] rfl rfl (cells_new _ _ _ _ rfl) (ints_oneCell .i64 [_]) (by unfold maxLen; omega) (by omega) (by have := HBEL.out.size; simp; omega) ?_; intro l' w3 hown3 hg3 _q; have hB3 := Lib.hid (Bl.grown (Bl.al HBEL.out _) (HOWN.out.alloc _) hg3); have hw3 := (hB3.out.cell (p := ⟨gw, q, none⟩) hgw2).trans hwc)
        go_roundw
        case rel => exact ⟨q + 1, p + 1, by omega, by go_num, by go_num, by rw [HE4.out, HP.out]; omega, hB3.out, by rw [HVQ.out]; exact hown3⟩
        case measure => simp [intOf] <;> omega
      · rw [← HP.out] at e2 e3
        have hcp := hrw p (by omega)
        have hcp1 := hrw (p + 1) e2
        have hzz := HZ.out p
        have hzz1 := HZ.out (p + 1)
        rw [e1] at hwc hwr1
        rw [e3] at hvq
        have HVQ := Lib.hid hvq
        have HE4 := Lib.hid e4
        rw [← HNN.out] at e2
        clear hown hbel hrw hvq e1 e3 e4 hB
        generalize zs.getD p 0 = z at *
        generalize zs.getD (p + 1) 0 = z2 at *
        go_wp2_with (at_builtin; refine wpList_append_own _ rfl (.tmp 70) (.tmp 72) 71 rfl w2.heap.size 3 i0 (.int .i64 0) 1 8 Tryd.underlying71 hi0 iz0 iz1 iz2 rfl (by decide) _ _ _ rfl (HOWN.out.alloc _) ⟨wr.heap.size, 0, none⟩ 1 1 [.int .i64 (256 * z + z2)] rfl rfl (cells_new _ _ _ _ rfl) (ints_oneCell .i64 [_]) (by unfold maxLen; omega) (by omega) (by have := HBEL.out.size; simp; omega) ?_; intro l' w3 hown3 hg3 _q; have hB3 := Lib.hid (Bl.grown (Bl.al HBEL.out _) (HOWN.out.alloc _) hg3); have hw3 := (hB3.out.cell (p := ⟨gw, q, none⟩) hgw2).trans hwc)
        go_roundw
        case rel => exact ⟨q + 1, p + 2, by omega, by go_num, by go_num, by rw [HE4.out, HP.out]; omega, hB3.out, by rw [HVQ.out]; exact hown3⟩
        case measure => simp [intOf] <;> omega
    · have hqe : q = ws.length := by omega
      have hB := Bl.tr hB2.out hbel
      have hci2 := (hB.cell (p := ⟨b, off + i, none⟩) hb).trans hc
      have hown' : wr.ownsRow w2.heap.size 3 1 u8 ws.length (i64s vals) := by
        rw [hqe, List.take_of_length_le (by rw [HL.out]; exact Nat.le_refl _)] at hown
        exact hown
      have HOWN := Lib.hid hown'
      have HBX := Lib.hid hB
      obtain ⟨hc3, hf3⟩ := bcell hbel
      have hz3 : w.heap.size < wr.heap.size := by have := hbel.size; omega
      have hq3 : ¬ (q : Int) < ws.length := by omega
      clear hown hown' hB hqe
      go_wp2_with (go_at_call 35; (with_reducible refine (HI.out _ _ _ HOWN.out).mono ?_); rintro e w4 ⟨rfl, hb4⟩; obtain ⟨hc4, hf4⟩ := bcell hb4; have hz4 : w.heap.size < w4.heap.size := (by have := hb4.size; omega))
      exact bodyPost_ret (v := .tuple #[.agg #[.int .i64 ra, .int .u8 ro, .int .i64 r1, .int .i64 r2, .int .i64 r3], .int .i64 0]) (by simp [results, Tryd.results11, go_sem, hc1, hc2, hc3, hc4, hz, hz2, hz3, hz4]) rfl
        ⟨rfl, by repeat (first | (with_reducible apply Bl.al) | (with_reducible refine Bl.sc ?_ (by simp) _) | (with_reducible exact Bl.tr HBX.out hb4))⟩
end Go.Proofs.YtfldicaaaadgaaaDoor.Code

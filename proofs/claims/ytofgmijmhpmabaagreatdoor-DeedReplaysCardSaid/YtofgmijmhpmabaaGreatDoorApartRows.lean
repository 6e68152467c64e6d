/- Lists of lists of ints that share no memory: the contract of (*tableauref00.Bag).apartRows. Printed by gen_apartrows.py. -/
import Derived.Test.YtofgmijmhpmabaaGreatDoorApartInts
import Derived.Test.YtofgmijmhpmabaaGreatDoorBagAll
import Derived.StillTailTactics
import Derived.Deep.RegionHeld
namespace Go.Proofs.YtofgmijmhpmabaaGreatDoor.G
open Go Go.RowKit
set_option linter.unusedVariables false
set_option linter.unusedSimpArgs false
theorem info24 : (Tryz.prog.info? 24).map (fun i => (i.zero, i.size, i.bytes)) = some (some (.slice none 0 0), 1, 24) := by kernel_rfl
/-! ### Which marks are made -/
def D1 (Ls : List Lst) (n j t i : Nat) : Prop := (t < n ∧ ∃ l, Ls[t]? = some l ∧ i < l.n) ∨ (t = n ∧ i < j)
def D2 (Ls : List Lst) (n m t i : Nat) : Prop := (∃ l, Ls[t]? = some l ∧ (i < l.n ∨ (t < n ∧ i < l.n + 70))) ∨ (t = n ∧ i < m)
section
variable {Ls : List Lst} {n j m t i : Nat} {l : Lst}
theorem d1_none : ¬ D1 Ls 0 0 t i := by
 rintro (⟨h, _⟩ | ⟨_, h⟩) <;> omega
theorem d1_step (h : D1 Ls n (j + 1) t i) : (t = n ∧ i = j) ∨ D1 Ls n j t i := by
 rcases h with h | ⟨h1, h2⟩
 ·exact .inr (.inl h)
 ·by_cases hij : i = j
  ·exact .inl ⟨h1, hij⟩
  ·exact .inr (.inr ⟨h1, by omega⟩)
theorem d1_next (hl : Ls[n]? = some l) (h : D1 Ls (n + 1) 0 t i) : D1 Ls n l.n t i := by
 rcases h with ⟨h1, l', h2, h3⟩ | ⟨_, h⟩
 ·by_cases ht : t = n
  ·subst ht
   obtain rfl := Option.some.inj (hl.symm.trans h2)
   exact .inr ⟨rfl, h3⟩
  ·exact .inl ⟨by omega, l', h2, h3⟩
 ·omega
theorem d1_end (h : D2 Ls 0 0 t i) : D1 Ls Ls.length 0 t i := by
 rcases h with ⟨l, h1, h2⟩ | ⟨_, h⟩
 ·exact .inl ⟨(List.getElem?_eq_some_iff.1 h1).1, l, h1, by rcases h2 with h2 | ⟨h2, _⟩ <;> omega⟩
 ·omega
theorem d2_row (hl : Ls[n]? = some l) (h : D2 Ls n l.n t i) : D2 Ls n 0 t i := by
 rcases h with h | ⟨rfl, h⟩
 ·exact .inl h
 ·exact .inl ⟨l, hl, .inl h⟩
theorem d2_step (h : D2 Ls n (m + 1) t i) : (t = n ∧ i = m) ∨ D2 Ls n m t i := by
 rcases h with h | ⟨h1, h2⟩
 ·exact .inr (.inl h)
 ·by_cases hij : i = m
  ·exact .inl ⟨h1, hij⟩
  ·exact .inr (.inr ⟨h1, by omega⟩)
theorem d2_next (hl : Ls[n]? = some l) (h : D2 Ls (n + 1) 0 t i) : D2 Ls n (l.n + 70) t i := by
 rcases h with ⟨l', h1, h2⟩ | ⟨_, h⟩
 ·by_cases ht : t = n
  ·subst ht
   obtain rfl := Option.some.inj (hl.symm.trans h1)
   exact .inr ⟨rfl, by omega⟩
  ·exact .inl ⟨l', h1, h2.imp id fun ⟨a, b⟩ => ⟨by omega, b⟩⟩
 ·omega
theorem d2_all (hl : Ls[n]? = some l) (hn : n < m) (hi : i < l.n + 70) : D2 Ls m 0 n i := .inl ⟨l, hl, .inr ⟨hn, hi⟩⟩
end
theorem MkI.fresh {w : World} {I : TypeId} {mk : Nat → Nat → List Value} {D D' : Nat → Nat → Prop} (h : MkI w I mk D) (n i : Nat) (hD : ∀ t j, D' t j → (t = n ∧ j = i) ∨ D t j) :
 MkI (w.alloc (.cells #[.int .i64 (1048576 * (n : Int) + (i : Int) + 1)] I)) I (upd mk n i [.slice (some ⟨w.heap.size, 0, none⟩) 1 1]) D' :=
 (h.kept fun _ _ hb => hb.alloc _).put (Blk.new _ _ _) hD
/-- A callee that draws nothing, met in the second of two quiet regions. -/
theorem quiet_same2 {P : Program} {f : FuncId} {args : Array Value} {w : World} {a n : Nat} {v : Value}
 (h : Calls P f args (w.drewN (a + n)) fun e w' => e = .returned v ∧ w' = w.drewN (a + n)) : Calls P f args (w.drewN (a + n)) fun e w'' => e = .returned v ∧ ∃ m, w'' = w.drewN (a + m) :=
 h.mono fun _ _ ⟨he, hm⟩ => ⟨he, n, hm⟩
/-! ### What the region that writes a mark keeps -/
def RwS (gb : Nat) (ah : Addr) (V H : Value) (W : World) : Prop := W.cell? ⟨gb, 12, none⟩ = some V ∧ W.cell? ah = some H
theorem RwS.alloc {gb : Nat} {ah : Addr} {V H : Value} {W : World} (h : RwS gb ah V H W) (o : Obj) : RwS gb ah V H (W.alloc o) :=
 ⟨((bl_alloc (Below.refl W.heap.size _) o).cell (World.block_lt_of_cell? _ _ h.1)).trans h.1, ((bl_alloc (Below.refl W.heap.size _) o).cell (World.block_lt_of_cell? _ _ h.2)).trans h.2⟩
theorem RwS.set {gb : Nat} {ah : Addr} {V H : Value} {W : World} {p : Addr} {u : Value} (h : RwS gb ah V H W) (h1 : p.block ≠ gb) (h2 : p.block ≠ ah.block) : RwS gb ah V H (W.setCell p u) :=
 ⟨(World.cell?_setCell_far W p ⟨gb, 12, none⟩ u h1).trans h.1, (World.cell?_setCell_far W p ah u h2).trans h.2⟩
set_option maxRecDepth 100000 in
set_option maxHeartbeats 4000000 in
theorem apartRows_any (base gb k hc : Nat) (HA : Option Addr) (cs : Array Value) (Ls : List Lst) (w : World) (hB : Blk w gb 64 cs) (hcs : cs[12]? = some (.slice HA k hc)) (hk : Ls.length = k) (hk4 : k ≤ 400)
 (hho : w.ownsRow base 24 1 (.slice HA k hc) k (Ls.map Lst.v)) (hF : Fam w base 28 1 (Rows0 Ls)) (hlen : ∀ l ∈ Ls, l.n ≤ 1099511627776) (hbase : base ≤ w.heap.size) :
 Calls Tryz.prog 78 #[.pointer (some ⟨gb, 0, none⟩)] w (ApartPost base 28 w) := by
 have HBAG := Lib.hid (fun wr hO => bag_at (wr := wr) (E := 28) hB hcs hho hO (by decide) (by decide))
 have HBLK := Lib.hid hB
 have HHO := Lib.hid hho
 have HF := Lib.hid hF
 have HL := Lib.hid hlen
 have HK := Lib.hid hk
 have hB1 := Lib.hid hbase
 clear hB hho hF hlen hk
 go_enter Tryz.func78, Tryz.ntmps78
 go_wp2
 go_loopw [3] (fun i wr => ∃ (n : Nat) (mk : Nat → Nat → List Value), n ≤ k ∧ i = .int .i64 n ∧ Only 28 base w wr ∧ MkI wr 3 mk (D1 Ls n 0) ∧ Fam wr base 28 1 (P1 Ls mk 1 n 0)) (fun i _ => k - (intOf i).toNat)
 case atStart => exact ⟨0, _, Nat.zero_le _, rfl, Only.refl _ _ _, MkI.start _ _ (fun _ _ => d1_none), p1_start HF.out⟩
 case round =>
  obtain ⟨n, mk, hn, rfl, hO, hmk, hfam⟩ := hrel
  have hbc := (HBAG.out wr hO).1
  have h0n : (0 : Int) ≤ n := by omega
  by_cases hlt : n < k
  ·obtain ⟨l, hl⟩ : ∃ l, Ls[n]? = some l := ⟨_, List.getElem?_eq_getElem (by rw [HK.out]; exact hlt)⟩
   have hln := HL.out l (List.mem_of_getElem? hl)
   have HL1 := Lib.hid hl
   have HMK0 := Lib.hid hmk
   clear hl hmk
   go_wp2
   obtain ⟨wo, hwo⟩ : ∃ wo : World, wo = wr := ⟨_, rfl⟩
   subst hwo
   go_loopw [4] (fun i wr => ∃ (j : Nat) (mk : Nat → Nat → List Value), j ≤ l.n ∧ i = .int .i64 j ∧ Only 28 base w wr ∧ MkI wr 3 mk (D1 Ls n j) ∧ Fam wr base 28 1 (P1 Ls mk 1 n j)) (fun i _ => l.n - (intOf i).toNat)
   case atStart => exact ⟨0, mk, Nat.zero_le _, rfl, hO, HMK0.out, hfam⟩
   case round =>
    clear hfam HMK0 mk
    obtain ⟨j, mk, hj, rfl, hO2, hmk2, hfam2⟩ := hrel
    obtain ⟨hbc2, hrd⟩ := HBAG.out wr hO2
    obtain ⟨hb, ho, hHA, hrv⟩ := hrd.2 (by omega)
    have hho2 := HHO.out
    subst hHA
    have hhc := hdr_at hrv HL1.out
    have h0j : (0 : Int) ≤ j := by omega
    by_cases hjl : j < l.n
    ·obtain ⟨g, cp, hv, hbg, hcap, cur, hgg⟩ := own_addr (p1_row hfam2 HL1.out) (by omega)
     obtain ⟨hb', _, hA', _, _, hgh⟩ := own_addr hho2 (by omega)
     simp only [Value.slice.injEq, Option.some.injEq, Addr.mk.injEq, and_true, true_and] at hA'
     obtain ⟨⟨rfl, rfl⟩, -⟩ := hA'
     rw [Nat.zero_add] at hhc
     obtain ⟨mk1, hmk1⟩ : ∃ mk1, mk1 = upd mk n j [.slice (some ⟨wr.heap.size, 0, none⟩) 1 1] := ⟨_, rfl⟩
     have HMV := Lib.hid (show mk1 n j = [.slice (some ⟨wr.heap.size, 0, none⟩) 1 1] by rw [hmk1]; exact upd_same ..)
     obtain ⟨wa, hwa⟩ : ∃ wa, wa = wr.drew.alloc (.cells #[.int .i64 (1048576 * (n : Int) + (j : Int) + 1)] 3) := ⟨_, rfl⟩
     have HMK1 := Lib.hid (show MkI wa 3 mk1 (D1 Ls n (j + 1)) by rw [hmk1, hwa]; exact (hmk2.kept (w' := wr.drew) (fun _ _ hb => hb)).fresh n j fun t q => d1_step)
     have hf1 : Fam wr base 28 1 (P1 Ls mk1 1 n j) := by rw [hmk1]; exact p1_upd hfam2
     clear hmk1 hmk2 hfam2
     have hfa : Fam wa base 28 1 (P1 Ls mk1 1 n j) := by rw [hwa]; exact (hf1.drewN 1).alloc _
     have hOa : Only 28 base w wa := by rw [hwa]; exact (hO2.drewN 1).alloc (by have := hO2.below.size; have := hB1.out; simp; omega) _
     have hrow := p1_row hfa HL1.out
     rw [hv] at hhc hrow
     have hc0 := own_some hrow j (by omega)
     obtain ⟨y, hc0⟩ := hc0
     have hf0 := hrow.frozenAt j
     have hst := hrow.stored j (.slice (some ⟨wr.heap.size, 0, none⟩) 1 1)
     rw [set_mid1 HMK1.out.len (by have := hrow.1; simp only [List.length_append, mks_length HMK1.out.len, List.length_drop] at this; omega) HMV.out] at hst
     have HST := Lib.hid hst
     have HV := Lib.hid hv
     obtain ⟨cur2, hg2⟩ := (own_blocks hrow g rfl).2
     have HG := Lib.hid hg2
     have HFAM := Lib.hid hfa
     have HOA := Lib.hid hOa
     have HNB := Lib.hid (show g ≠ gb from fun e => by
      have h1 := hOa.blk HBLK.out (by decide)
      unfold Blk at h1
      rw [e] at hg2
      rw [hg2] at h1
      simp at h1)
     have HNH := Lib.hid (show g ≠ hb from fun e => by
      obtain ⟨c9, h9⟩ := hgh
      have h1 := hOa.other _ _ _ _ h9 (by decide)
      rw [e] at hg2
      rw [hg2] at h1
      simp at h1)
     have hjn : (j : Int) < l.n := by omega
     rw [hwa] at hc0 hf0
     have hc0' : (wr.alloc (.cells #[.int .i64 (1048576 * (n : Int) + (j : Int) + 1)] 3)).cell? ⟨g, j, none⟩ = some y := hc0
     have hf0' : (wr.alloc (.cells #[.int .i64 (1048576 * (n : Int) + (j : Int) + 1)] 3)).frozen? ⟨g, j, none⟩ = false := hf0
     clear hc0 hf0
     clear hst hv hgg hrow hrv hrd hf1 hfa hOa hg2 hgh hho2
     go_wp2
     refine wp_region_held_drew (S := RwS gb ⟨hb, n, none⟩ (.slice (some ⟨hb, 0, none⟩) k hc) (.slice (some ⟨g, 0, none⟩) l.n cp)) (by kernel_rfl) ?_ (fun hHeld => ?_)
     ·exact ⟨hbc2, hhc⟩
     refine wpAnyH_take (i := 0) (oi := ⟨some 35, _, _, _, _, _⟩) (v := ?_) rfl (by kernel_rfl) (by kernel_rfl) (by kernel_rfl) (fun _ _ _ h => h) (Or.inl ⟨by rfl, ?_⟩) (by assumption) ?_
     rotate_left
     ·(intro w hSw; unfold RwS at hSw; go_split_ands; go_simp; try with_reducible rfl)
     try simp only [Act.put, List.setIfInBounds_toArray, List.set_cons_zero, List.set_cons_succ]
     refine wpAnyH_take (i := 1) (oi := ⟨some 36, _, _, _, _, _⟩) (v := ?_) rfl (by kernel_rfl) (by kernel_rfl) (by kernel_rfl) (fun _ _ _ h => h) (Or.inl ⟨by rfl, ?_⟩) (by assumption) ?_
     rotate_left
     ·(intro w hSw; unfold RwS at hSw; go_split_ands; go_simp; try with_reducible rfl)
     try simp only [Act.put, List.setIfInBounds_toArray, List.set_cons_zero, List.set_cons_succ]
     refine wpAnyH_take (i := 2) (oi := ⟨some 37, _, _, _, _, _⟩) (v := ?_) rfl (by kernel_rfl) (by kernel_rfl) (by kernel_rfl) (fun _ _ _ h => h) (Or.inl ⟨by rfl, ?_⟩) (by assumption) ?_
     rotate_left
     ·(intro w hSw; unfold RwS at hSw; go_split_ands; go_simp; try with_reducible rfl)
     try simp only [Act.put, List.setIfInBounds_toArray, List.set_cons_zero, List.set_cons_succ]
     refine wpAnyH_take (i := 3) (oi := ⟨some 38, _, _, _, _, _⟩) (v := ?_) rfl (by kernel_rfl) (by kernel_rfl) (by kernel_rfl) (fun _ _ _ h => h) (Or.inl ⟨by rfl, ?_⟩) (by assumption) ?_
     rotate_left
     ·(intro w hSw; unfold RwS at hSw; go_split_ands; go_simp; try with_reducible rfl)
     try simp only [Act.put, List.setIfInBounds_toArray, List.set_cons_zero, List.set_cons_succ]
     refine wpAnyH_take (i := 4) (oi := ⟨some 39, _, _, _, _, _⟩) (v := ?_) rfl (by kernel_rfl) (by kernel_rfl) (by kernel_rfl) (fun _ _ _ h => h) (Or.inl ⟨by rfl, ?_⟩) (by assumption) ?_
     rotate_left
     ·(intro w hSw; unfold RwS at hSw; go_split_ands; go_simp; try with_reducible rfl)
     try simp only [Act.put, List.setIfInBounds_toArray, List.set_cons_zero, List.set_cons_succ]
     refine wpAnyH_take (i := 5) (oi := ⟨some 40, _, _, _, _, _⟩) (v := ?_) rfl (by kernel_rfl) (by kernel_rfl) (by kernel_rfl) (fun _ _ _ h => h) (Or.inl ⟨by rfl, ?_⟩) (by assumption) ?_
     rotate_left
     ·(intro w hSw; unfold RwS at hSw; go_split_ands; go_simp; try with_reducible rfl)
     try simp only [Act.put, List.setIfInBounds_toArray, List.set_cons_zero, List.set_cons_succ]
     refine wpAnyH_take (i := 6) (oi := ⟨some 41, _, _, _, _, _⟩) (v := ?_) rfl (by kernel_rfl) (by kernel_rfl) (by kernel_rfl) (fun _ _ _ h => h) (Or.inl ⟨by rfl, ?_⟩) (by assumption) ?_
     rotate_left
     ·(intro w hSw; unfold RwS at hSw; go_split_ands; go_simp; try with_reducible rfl)
     try simp only [Act.put, List.setIfInBounds_toArray, List.set_cons_zero, List.set_cons_succ]
     refine wpAnyH_take (i := 7) (oi := ⟨some 42, _, _, _, _, _⟩) (v := ?_) rfl (by kernel_rfl) (by kernel_rfl) (by kernel_rfl) (fun _ _ _ h => h) (Or.inl ⟨by rfl, ?_⟩) (by assumption) ?_
     rotate_left
     ·(intro w hSw; unfold RwS at hSw; go_split_ands; go_simp; try with_reducible rfl)
     try simp only [Act.put, List.setIfInBounds_toArray, List.set_cons_zero, List.set_cons_succ]
     refine wpAnyH_take (i := 8) (oi := ⟨some 43, _, _, _, _, _⟩) (v := ?_) rfl (by kernel_rfl) (by kernel_rfl) (by kernel_rfl) (fun _ _ _ h => h) (Or.inl ⟨by rfl, ?_⟩) (by assumption) ?_
     rotate_left
     ·(intro w hSw; unfold RwS at hSw; go_split_ands; go_simp; try with_reducible rfl)
     try simp only [Act.put, List.setIfInBounds_toArray, List.set_cons_zero, List.set_cons_succ]
     refine wpAnyH_take (i := 9) (oi := ⟨some 44, _, _, _, _, _⟩) (v := ?_) rfl (by kernel_rfl) (by kernel_rfl) (by kernel_rfl) (fun _ _ _ h => h) (Or.inl ⟨by rfl, ?_⟩) (by assumption) ?_
     rotate_left
     ·(intro w hSw; unfold RwS at hSw; go_split_ands; go_simp; try with_reducible rfl)
     try simp only [Act.put, List.setIfInBounds_toArray, List.set_cons_zero, List.set_cons_succ]
     refine wpAnyH_ready (rs := [10]) (by kernel_rfl) (by simp) ?_
     refine AllReadyH.cons rfl (fun K hK => ?_) AllReadyH.nil
     go_simp
     (go_at_call 98; refine (num_still n j _ (by omega) (by omega)).mono ?_; rintro e wq ⟨rfl, rfl⟩)
     go_wp2_with fail
     refine hK.out _ _ ?_ (fun hHeld => ?_)
     ·assumption
     clear hK K
     try simp only [Act.put, List.setIfInBounds_toArray, List.set_cons_zero, List.set_cons_succ]
     refine wpAnyH_ready (rs := [11]) (by kernel_rfl) (by simp) ?_
     refine AllReadyH.cons rfl (fun K hK => ?_) AllReadyH.nil
     go_simp
     go_wp2_with fail
     refine hK.out _ _ ?_ (fun hHeld => ?_)
     ·exact RwS.alloc (by assumption) _
     clear hK K
     try simp only [Act.put, List.setIfInBounds_toArray, List.set_cons_zero, List.set_cons_succ]
     refine wpAnyH_take (i := 12) (oi := ⟨some 47, _, _, _, _, _⟩) (v := ?_) rfl (by kernel_rfl) (by kernel_rfl) (by kernel_rfl) (fun _ _ _ h => h) (Or.inl ⟨by rfl, ?_⟩) (by assumption) ?_
     rotate_left
     ·(intro w hSw; unfold RwS at hSw; go_split_ands; go_simp; try with_reducible rfl)
     try simp only [Act.put, List.setIfInBounds_toArray, List.set_cons_zero, List.set_cons_succ]
     refine wpAnyH_ready (rs := [13]) (by kernel_rfl) (by simp) ?_
     refine AllReadyH.cons rfl (fun K hK => ?_) AllReadyH.nil
     go_simp
     go_wp2_with fail
     refine hK.out _ _ ?_ (fun hHeld => ?_)
     ·exact RwS.set (by assumption) HNB.out HNH.out
     clear hK K
     try simp only [Act.put, List.setIfInBounds_toArray, List.set_cons_zero, List.set_cons_succ]
     refine wpAnyH_done (by kernel_rfl) ?_ _
     go_wp2_with fail
     have HK3 := Lib.hid (HOA.out.set (p := ⟨g, j, none⟩) hbg HG.out (.slice (some ⟨wr.heap.size, 0, none⟩) 1 1))
     have HM3 := Lib.hid (HMK1.out.kept (w' := wa.setCell ⟨g, j, none⟩ (.slice (some ⟨wr.heap.size, 0, none⟩) 1 1)) (fun _ _ hb => ((Only.refl 28 0 wa).set (p := ⟨g, j, none⟩) (Nat.zero_le _) HG.out _).blk hb (by decide)))
     have HF3 := Lib.hid (p1_step HMK1.out.len HFAM.out HL1.out hjl (by rw [HV.out]; exact HST.out.1) (by rw [HV.out]; exact HST.out.2))
     rw [hwa] at HK3 HM3 HF3
     go_roundw
     case rel => exact ⟨j + 1, mk1, by omega, by go_num, HK3.out, HM3.out, HF3.out⟩
     case measure => simp [intOf] <;> omega
    ·obtain rfl : j = l.n := by omega
     obtain ⟨ao, cp, hv⟩ := own_shape (p1_row hfam2 HL1.out)
     rw [hv] at hhc
     have HFAM := Lib.hid hfam2
     have HMK := Lib.hid hmk2
     have hjn : ¬ (l.n : Int) < l.n := by omega
     clear hrv hrd hfam2 hmk2 hv hho2
     go_wp2
     go_roundw
     case rel => exact ⟨n + 1, mk, by omega, by go_num, hO2, HMK.out.sub (fun t q => d1_next HL1.out), p1_next HMK.out.len HFAM.out HL1.out⟩
     case measure => simp [intOf] <;> omega
  ·obtain rfl : k = n := by omega
   have HFAM0 := Lib.hid (p1_end hfam HK.out.symm)
   have HMK0 := Lib.hid (hmk.sub (D' := D2 Ls 0 0) (fun t q h => by rw [← HK.out]; exact d1_end h))
   have hnk : ¬ (k : Int) < k := by omega
   clear hfam hmk
   obtain ⟨i0, hi, hz0, hz1, hz2⟩ := info_parts info28
   obtain ⟨i1, hi1, hz10, hz11, hz12⟩ := info_parts info24
   go_wp2
   obtain ⟨wp1, hwp1⟩ : ∃ wp1 : World, wp1 = wr := ⟨_, rfl⟩
   subst hwp1
   go_loopw [5, 6, 7] (fun v5 v6 i wr => ∃ (n : Nat) (mk : Nat → Nat → List Value) (os ms : List Value), n ≤ k ∧ i = .int .i64 n ∧ os.length = n ∧ ms.length = n ∧ Only 28 base w wr ∧ MkI wr 3 mk (D2 Ls n 0) ∧ Fam wr base 28 1 (P2 Ls mk os ms) ∧ Fam wr w.heap.size 24 1 (Two v5 n os v6 n ms)) (fun _ _ i _ => k - (intOf i).toNat)
   case atStart => exact ⟨0, mk, [], [], Nat.zero_le _, rfl, rfl, rfl, hO, HMK0.out, HFAM0.out, two_nil _ _ _⟩
   case round =>
    clear HFAM0 HMK0 mk
    obtain ⟨n, mk, os, ms, hn, rfl, hos, hms, hO, hmk, hfam, htwo⟩ := hrel
    have hbc := (HBAG.out wr hO).1
    have h0n : (0 : Int) ≤ n := by omega
    by_cases hlt : n < k
    ·obtain ⟨l, hl⟩ : ∃ l, Ls[n]? = some l := ⟨_, List.getElem?_eq_getElem (by rw [HK.out]; exact hlt)⟩
     have hln := HL.out l (List.mem_of_getElem? hl)
     obtain ⟨hbc2, hrd⟩ := HBAG.out wr hO
     obtain ⟨hb, ho, hHA, hrv⟩ := hrd.2 (by omega)
     subst hHA
     have hhc := hdr_at hrv hl
     obtain ⟨ao, cp, hv⟩ := own_shape (p2_row hfam hl)
     have hfam2 := p2_first hfam hl
     rw [hv] at hhc hfam2
     have HHC := Lib.hid (fun wr hO => by
      obtain ⟨q1, q2⟩ := HBAG.out wr hO
      obtain ⟨hb', ho', hHA', hrv'⟩ := q2.2 (by omega)
      simp only [Option.some.injEq, Addr.mk.injEq, and_true] at hHA'
      obtain ⟨rfl, rfl⟩ := hHA'
      have q3 := hdr_at hrv' hl
      rw [hv] at q3
      exact And.intro q1 q3)
     have HL1 := Lib.hid hl
     have HFAM0 := Lib.hid hfam2
     have HTWO0 := Lib.hid htwo
     have HMK0 := Lib.hid (hmk.sub (D' := D2 Ls n l.n) (fun t q => d2_row hl))
     clear hl hv hrv hrd hfam hfam2 htwo hbc2 hmk
     go_wp2
     obtain ⟨wp2, hwp2⟩ : ∃ wp2 : World, wp2 = wr := ⟨_, rfl⟩
     subst hwp2
     go_loopw [5, 8, 9] (fun v5 v i wr => ∃ (m : Nat) (mk : Nat → Nat → List Value) (os : List Value), l.n ≤ m ∧ m ≤ l.n + 70 ∧ i = .int .i64 m ∧ ((m = l.n ∧ os.length = n) ∨ (l.n < m ∧ os.length = n + 1)) ∧ Only 28 base w wr ∧ MkI wr 3 mk (D2 Ls n m) ∧ Fam wr base 28 1 (P2in Ls mk os ms n v m) ∧ Fam wr w.heap.size 24 1 (Two v5 os.length os u6 n ms)) (fun _ _ i _ => l.n + 70 - (intOf i).toNat)
     case atStart => exact ⟨l.n, mk, os, Nat.le_refl _, by omega, rfl, .inl ⟨rfl, hos⟩, hO, HMK0.out, HFAM0.out, by rw [hos]; exact HTWO0.out⟩
     case round =>
      clear HFAM0 HMK0 HTWO0 mk
      obtain ⟨m, mk, os, hm0, hm1, rfl, hom, hO, hmk, hfam, htwo⟩ := hrel
      obtain ⟨hbc, hhc⟩ := HHC.out wr hO
      have h0m : (0 : Int) ≤ m := by omega
      have hsz := hO.below.size
      have hpos := hB1.out
      have HTWO := Lib.hid htwo
      have HMK := Lib.hid hmk
      clear htwo hmk
      by_cases hmt : m < l.n + 70
      ·have h1 : (m : Int) < l.n + 70 := by omega
       by_cases hml : m = l.n
       ·subst hml
        obtain ⟨mk1, hmk1⟩ : ∃ mk1, mk1 = upd mk n l.n [.slice (some ⟨wr.heap.size, 0, none⟩) 1 1] := ⟨_, rfl⟩
        have HMV := Lib.hid (show mk1 n l.n = [.slice (some ⟨wr.heap.size, 0, none⟩) 1 1] by rw [hmk1]; exact upd_same ..)
        have HMK1 := Lib.hid (show MkI (wr.alloc (.cells #[.int .i64 (1048576 * (n : Int) + ((l.n : Nat) : Int) + 1)] 3)) 3 mk1 (D2 Ls n (l.n + 1)) by rw [hmk1]; exact HMK.out.fresh n l.n fun t q => d2_step)
        have hf1 := p2_upd (u := [.slice (some ⟨wr.heap.size, 0, none⟩) 1 1]) hfam HL1.out (by omega) (by omega) (by omega)
        rw [← hmk1] at hf1
        have HFAM := Lib.hid hf1
        clear hf1
        have HCUR := Lib.hid (p2_cur HFAM.out)
        have HNW := Lib.hid (cells_new (wr.alloc (.cells #[.int .i64 (1048576 * (n : Int) + ((l.n : Nat) : Int) + 1)] 3)) [.slice (some ⟨wr.heap.size, 0, none⟩) 1 1] 28 (wr.heap.size + 1) (by simp))
        clear hmk1 hfam
        go_wp2_with (first
         | (go_at_call 98; refine (num_any n l.n _ (by omega) (by omega)).mono ?_; rintro e wq ⟨rfl, rfl⟩)
         | (at_builtin; refine wpList_append_keep _ rfl (.tmp 79) (.tmp 84) 24 rfl base 28 i0 _ 1 24 Tryz.underlying24 hi hz0 hz1 hz2 rfl (by decide) _ _ _ rfl ((HCUR.out.alloc _).alloc _) ⟨wr.heap.size + 1, 0, none⟩ 1 1 [.slice (some ⟨wr.heap.size, 0, none⟩) 1 1] rfl rfl HNW.out (by simp [Value.oneCell']) (by unfold maxLen; omega) (by omega) (by simp; omega) ?_; intro v' w2 hown2 hwent2; obtain ⟨pa, pc, hv'⟩ := own_shape hown2; subst hv'; have hO2 := Lib.hid (((hO.alloc (by omega) _).alloc (by simp; omega) _).grown hwent2.by_ (by simp; omega) (own_blocks ((HCUR.out.alloc _).alloc _))); have hmk2 := Lib.hid (HMK1.out.kept (fun g cs hb => (hb.alloc _).far_row ((HCUR.out.alloc _).alloc _) hwent2.by_ (by decide))); rw [← HMV.out] at hown2; have hfam2 := Lib.hid (p2_app ((HFAM.out.alloc _).alloc _) HL1.out (by omega) (by omega) (by omega) hown2 hwent2); have two2 := Lib.hid (((HTWO.out.alloc _).alloc _).far ((HCUR.out.alloc _).alloc _) hwent2.by_ (by decide)); have hbc2 := (HHC.out w2 hO2.out).1; have hhc2 := (HHC.out w2 hO2.out).2; have hsz2 := hO2.out.below.size; clear hown2 hwent2)
         | (at_builtin; refine wpList_append_keep _ rfl (.tmp 96) (.tmp 98) 54 rfl w.heap.size 24 i1 _ 1 24 Tryz.underlying54 hi1 hz10 hz11 hz12 rfl (by decide) _ _ _ rfl ((two_l two2.out).alloc _) ⟨w2.heap.size, 0, none⟩ 1 1 [.slice pa (l.n + 1) pc] rfl rfl (cells_new _ _ _ _ rfl) (one_of (p2_cur hfam2.out)) (by unfold maxLen; omega) (by omega) (by simp; omega) ?_; intro v5' w3 hown3 hwent3))
        have hO3 := Lib.hid ((hO2.out.alloc (by omega) _).grown_new hwent3.by_ hB1.out (fun g hg => ((two_l two2.out).lt g hg).1))
        have hmk3 := Lib.hid (hmk2.out.kept (fun g cs hb => (hb.alloc _).far_row ((two_l two2.out).alloc _) hwent3.by_ (by decide)))
        have hfam3 := Lib.hid ((hfam2.out.alloc _).far ((two_l two2.out).alloc _) hwent3.by_ (by decide))
        have two3 := Lib.hid (two_app_l (two2.out.alloc _) hown3 hwent3)
        go_roundw
        case rel => exact ⟨l.n + 1, mk1, os ++ [_], by omega, by omega, by go_num, .inr ⟨by omega, by rw [List.length_append]; simp; omega⟩, hO3.out, hmk3.out, p2_keep1 hfam3.out HL1.out (by omega), by rw [List.length_append]; exact two3.out⟩
        case measure => simp [intOf] <;> omega
       ·have hml1 : ((m : Int) == l.n) = false := by simpa using fun h : (m : Int) = l.n => hml (by omega)
        obtain ⟨mk1, hmk1⟩ : ∃ mk1, mk1 = upd mk n m [.slice (some ⟨wr.heap.size, 0, none⟩) 1 1] := ⟨_, rfl⟩
        have HMV := Lib.hid (show mk1 n m = [.slice (some ⟨wr.heap.size, 0, none⟩) 1 1] by rw [hmk1]; exact upd_same ..)
        have HMK1 := Lib.hid (show MkI (wr.alloc (.cells #[.int .i64 (1048576 * (n : Int) + ((m : Nat) : Int) + 1)] 3)) 3 mk1 (D2 Ls n (m + 1)) by rw [hmk1]; exact HMK.out.fresh n m fun t q => d2_step)
        have hf1 := p2_upd (u := [.slice (some ⟨wr.heap.size, 0, none⟩) 1 1]) hfam HL1.out (by omega) (by omega) (by omega)
        rw [← hmk1] at hf1
        have HFAM := Lib.hid hf1
        clear hf1
        have HCUR := Lib.hid (p2_cur HFAM.out)
        have HNW := Lib.hid (cells_new (wr.alloc (.cells #[.int .i64 (1048576 * (n : Int) + ((m : Nat) : Int) + 1)] 3)) [.slice (some ⟨wr.heap.size, 0, none⟩) 1 1] 28 (wr.heap.size + 1) (by simp))
        clear hmk1 hfam
        go_wp2_with (first
         | (go_at_call 98; refine (num_any n m _ (by omega) (by omega)).mono ?_; rintro e wq ⟨rfl, rfl⟩)
         | (at_builtin; refine wpList_append_keep _ rfl (.tmp 79) (.tmp 84) 24 rfl base 28 i0 _ 1 24 Tryz.underlying24 hi hz0 hz1 hz2 rfl (by decide) _ _ _ rfl ((HCUR.out.alloc _).alloc _) ⟨wr.heap.size + 1, 0, none⟩ 1 1 [.slice (some ⟨wr.heap.size, 0, none⟩) 1 1] rfl rfl HNW.out (by simp [Value.oneCell']) (by unfold maxLen; omega) (by omega) (by simp; omega) ?_; intro v' w2 hown2 hwent2; obtain ⟨pa, pc, hv'⟩ := own_shape hown2; subst hv'; have hO2 := Lib.hid (((hO.alloc (by omega) _).alloc (by simp; omega) _).grown hwent2.by_ (by simp; omega) (own_blocks ((HCUR.out.alloc _).alloc _))); have hmk2 := Lib.hid (HMK1.out.kept (fun g cs hb => (hb.alloc _).far_row ((HCUR.out.alloc _).alloc _) hwent2.by_ (by decide))); rw [← HMV.out] at hown2; have hfam2 := Lib.hid (p2_app ((HFAM.out.alloc _).alloc _) HL1.out (by omega) (by omega) (by omega) hown2 hwent2); have two2 := Lib.hid (((HTWO.out.alloc _).alloc _).far ((HCUR.out.alloc _).alloc _) hwent2.by_ (by decide)); have hbc2 := (HHC.out w2 hO2.out).1; have hhc2 := (HHC.out w2 hO2.out).2; have hsz2 := hO2.out.below.size; clear hown2 hwent2))
        go_roundw
        case rel => exact ⟨m + 1, mk1, os, by omega, by omega, by go_num, .inr ⟨by omega, by omega⟩, hO2.out, hmk2.out, hfam2.out, two2.out⟩
        case measure => simp [intOf] <;> omega
      ·obtain rfl : m = l.n + 70 := by omega
       have h1 : ¬ ((l.n + 70 : Nat) : Int) < l.n + 70 := by omega
       have HCUR := Lib.hid (p2_cur hfam)
       have HFAM := Lib.hid hfam
       clear hfam
       obtain ⟨pa, pc, hv'⟩ := own_shape HCUR.out
       subst hv'
       go_wp2_with (at_builtin; refine wpList_append_keep _ rfl (.tmp 100) (.tmp 102) 54 rfl w.heap.size 24 i1 _ 1 24 Tryz.underlying54 hi1 hz10 hz11 hz12 rfl (by decide) _ _ _ rfl ((two_r HTWO.out).alloc _) ⟨wr.heap.size, 0, none⟩ 1 1 [.slice pa (l.n + 70) pc] rfl rfl (cells_new _ _ _ _ rfl) (one_of HCUR.out) (by unfold maxLen; omega) (by omega) (by simp; omega) ?_; intro v6' w3 hown3 hwent3)
       have hO3 := Lib.hid ((hO.alloc (by omega) _).grown_new hwent3.by_ hB1.out (fun g hg => ((two_r HTWO.out).lt g hg).1))
       have hmk3 := Lib.hid (HMK.out.kept (fun g cs hb => (hb.alloc _).far_row ((two_r HTWO.out).alloc _) hwent3.by_ (by decide)))
       have hfam3 := Lib.hid ((HFAM.out.alloc _).far ((two_r HTWO.out).alloc _) hwent3.by_ (by decide))
       have two3 := Lib.hid (two_app_r (HTWO.out.alloc _) hown3 hwent3)
       go_roundw
       case rel => exact ⟨n + 1, mk, os, ms ++ [_], by omega, by go_num, by omega, by rw [List.length_append]; simp; omega, hO3.out, hmk3.out.sub (fun t q => d2_next HL1.out), p2_keep70 hfam3.out HL1.out hms, (show os.length = n + 1 by omega) ▸ two3.out⟩
       case measure => simp [intOf] <;> omega
    ·obtain rfl : k = n := by omega
     have hnk2 : ¬ (k : Int) < k := by omega
     have HFAM0 := Lib.hid hfam
     have HTWO0 := Lib.hid htwo
     have HMK0 := Lib.hid hmk
     clear hfam htwo hmk
     go_wp2
     obtain ⟨wp3, hwp3⟩ : ∃ wp3 : World, wp3 = wr := ⟨_, rfl⟩
     subst hwp3
     obtain ⟨a6, c6, hv6⟩ := own_shape (two_r HTWO0.out)
     subst hv6
     obtain ⟨a5, c5, hv5⟩ := own_shape (two_l HTWO0.out)
     subst hv5
     go_loopw [10] (fun i wr => ∃ n : Nat, n ≤ k ∧ i = .int .i64 n ∧ Only 28 base w wr ∧ MkI wr 3 mk (D2 Ls k 0) ∧ Fam wr base 28 1 (P2 Ls mk os ms) ∧ Fam wr w.heap.size 24 1 (Two (.slice a5 k c5) k os (.slice a6 k c6) k ms)) (fun i _ => k - (intOf i).toNat)
     case atStart => exact ⟨0, Nat.zero_le _, rfl, hO, HMK0.out, HFAM0.out, HTWO0.out⟩
     case round =>
      clear HFAM0 HMK0 HTWO0
      obtain ⟨n, hn, rfl, hO, hmk, hfam, htwo⟩ := hrel
      have h0n : (0 : Int) ≤ n := by omega
      by_cases hlt : n < k
      ·obtain ⟨l, hl⟩ : ∃ l, Ls[n]? = some l := ⟨_, List.getElem?_eq_getElem (by rw [HK.out]; exact hlt)⟩
       refine look_use HBAG.out HHO.out HK.out hos hms hlt HL.out hfam htwo ?_
       intro hb h5 h6 ln gm cm go co cl al e1 e2 e3 hln hlook
       subst e1 e2 e3
       have hlk : l.n = ln := by
        have q1 := (hlook wr hO hfam htwo).hdr
        obtain ⟨hb', ho', hHA', hrv'⟩ := (HBAG.out wr hO).2.2 (by omega)
        simp only [Option.some.injEq, Addr.mk.injEq, and_true] at hHA'
        obtain ⟨rfl, rfl⟩ := hHA'
        have q2 := hdr_at hrv' hl
        obtain ⟨a9, c9, hv9⟩ := own_shape (p2_row hfam hl)
        rw [Nat.zero_add, q1, hv9] at q2
        simp only [Option.some.injEq, Value.slice.injEq] at q2
        exact q2.2.1.symm
       have HLK := Lib.hid (fun j (hj : j < ln + 70) => d2_all (i := j) hl hlt (by rw [hlk]; exact hj))
       have HLOOK := Lib.hid hlook
       have hm0 := (hlook wr hO hfam htwo).more
       have HFAM1 := Lib.hid hfam
       have HTWO1 := Lib.hid htwo
       have HMK1 := Lib.hid hmk
       clear hlook hfam htwo hmk hl hlk
       go_wp2
       obtain ⟨wp4, hwp4⟩ : ∃ wp4 : World, wp4 = wr := ⟨_, rfl⟩
       subst hwp4
       go_loopw [11] (fun i wr => ∃ j : Nat, j ≤ ln + 70 ∧ i = .int .i64 j ∧ Only 28 base w wr ∧ MkI wr 3 mk (D2 Ls k 0) ∧ Fam wr base 28 1 (P2 Ls mk os ms) ∧ Fam wr w.heap.size 24 1 (Two (.slice (some ⟨h5, 0, none⟩) k c5) k os (.slice (some ⟨h6, 0, none⟩) k c6) k ms)) (fun i _ => ln + 70 - (intOf i).toNat)
       case atStart => exact ⟨0, Nat.zero_le _, rfl, hO, HMK1.out, HFAM1.out, HTWO1.out⟩
       case round =>
        clear HFAM1 HTWO1 HMK1
        obtain ⟨j, hj, rfl, hO, hmk, hfam, htwo⟩ := hrel
        have hL := HLOOK.out wr hO hfam htwo
        have hbag := hL.bag
        have hhdr := hL.hdr
        have hone := hL.one
        have hmore := hL.more
        have h0j : (0 : Int) ≤ j := by omega
        have HFAM := Lib.hid hfam
        have HTWO := Lib.hid htwo
        have HMK := Lib.hid hmk
        clear hmk
        by_cases hjm : j < ln + 70
        ·obtain ⟨gx, hgx, hbx⟩ := HMK.out.at_ n j (HLK.out j hjm)
         have hx0 : wr.cell? ⟨gx, 0, none⟩ = some (.int .i64 (1048576 * (n : Int) + (j : Int) + 1)) := hbx.cell 0
         have hcm := mark_cell1 HMK.out.len hL.m hjm hgx
         have h1 : (j : Int) < ln + 70 := by omega
         clear hbx
         by_cases hjl : j < ln
         ·refine own_use hL.r (by omega) ?_
          intro gl hal
          subst hal
          have hcl := mark_cell1 HMK.out.len hL.r hjl hgx
          have hje : ((j : Int) == ln) = false := by simp; omega
          clear hL hfam htwo
          go_wp2
          go_quiet ((go_at_call 98; exact Calls.quiet_of_same (num_still n j _ (by omega) (by omega))))
          go_wp2
          go_quiet ((go_at_call 98; exact quiet_same2 (num_still n j _ (by omega) (by omega))))
          go_wp2
          go_roundw
          case rel => exact ⟨j + 1, by omega, by go_num, hO.drewN _, HMK.out.kept (fun _ _ hb => hb), HFAM.out.drewN _, HTWO.out.drewN _⟩
          case measure => simp [intOf] <;> omega
         ·have hjl1 : ¬ (j : Int) < ln := by omega
          by_cases hje : j = ln
          ·subst hje
           have hco := mark_cell1 HMK.out.len hL.o (Nat.lt_succ_self _) hgx
           clear hL hfam htwo
           go_wp2
           go_quiet ((go_at_call 98; exact Calls.quiet_of_same (num_still n j _ (by omega) (by omega))))
           go_wp2
           go_quiet ((go_at_call 98; exact quiet_same2 (num_still n j _ (by omega) (by omega))))
           go_wp2
           go_roundw
           case rel => exact ⟨j + 1, by omega, by go_num, hO.drewN _, HMK.out.kept (fun _ _ hb => hb), HFAM.out.drewN _, HTWO.out.drewN _⟩
           case measure => simp [intOf] <;> omega
          ·have hje1 : ((j : Int) == ln) = false := by simp; omega
           clear hL hfam htwo
           go_wp2
           go_quiet ((go_at_call 98; exact Calls.quiet_of_same (num_still n j _ (by omega) (by omega))))
           go_wp2
           go_quiet ((go_at_call 98; exact quiet_same2 (num_still n j _ (by omega) (by omega))))
           go_wp2
           go_roundw
           case rel => exact ⟨j + 1, by omega, by go_num, hO.drewN _, HMK.out.kept (fun _ _ hb => hb), HFAM.out.drewN _, HTWO.out.drewN _⟩
           case measure => simp [intOf] <;> omega
        ·have h1 : ¬ (j : Int) < ln + 70 := by omega
         clear hL hfam htwo
         go_wp2
         go_roundw
         case rel => exact ⟨n + 1, by omega, by go_num, hO, HMK.out, HFAM.out, HTWO.out⟩
         case measure => simp [intOf] <;> omega
      ·go_wp2
       go_ret
       exact ⟨rfl, hO⟩
end Go.Proofs.YtofgmijmhpmabaaGreatDoor.G

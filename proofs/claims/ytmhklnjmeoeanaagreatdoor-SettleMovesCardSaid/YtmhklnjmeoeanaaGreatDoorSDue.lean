/- The contract of settle.due: what is due in a state that may be, and what it leads to. Printed by gen_due.py. -/
import Derived.Test.YtmhklnjmeoeanaaGreatDoorSWhole
namespace Go.Proofs.YtmhklnjmeoeanaaGreatDoor.D
open Go Go.RowKit
set_option linter.unusedVariables false
set_option linter.unusedSimpArgs false
attribute [local go_sem] Oper.semAt_some
def DuePost (s : St) (w : World) (e : Ending) (w' : World) : Prop :=
  ∃ (x' : SV) (A : Option Addr) (n c : Nat) (L : List (EV × Ev)), e = .returned (.tuple #[x'.val (dueP s).1, .slice A n c]) ∧ OwnSt w' w.heap.size x' (dueP s).1 ∧ OwnEvs w' w.heap.size A n c L ∧ L.map Prod.snd = (dueP s).2 ∧ Below w.heap.size w w'
set_option maxRecDepth 100000 in
set_option maxHeartbeats 16000000 in
theorem due_any (x : SV) (s : St) (w : World) (h : RdSt w x s) (hm : May s) : Calls Tryz.prog 28 #[x.val s] w (DuePost s w) := by
  obtain ⟨fsS, hfsS⟩ := undSt
  have HFS := Lib.hid hfsS
  obtain ⟨fsE, hfsE⟩ := undEv
  have HFE := Lib.hid hfsE
  have HM := Lib.hid hm
  have HR := Lib.hid h
  have HCP := Lib.hid (fun W (hW : Below w.heap.size w W) => copy_any x s W (h.below hW) (may_sz hm))
  obtain ⟨cs, hc⟩ : ∃ c, c = x.arr s := ⟨_, rfl⟩
  have HS := Lib.hid (show cs.size = 7 by rw [hc]; rfl)
  have he : x.val s = .agg cs := by rw [hc]; rfl
  rw [he] at HCP ⊢
  have HCS := Lib.hid hc
  clear h hm hc he hfsS hfsE
  have H0 := two_new w 27 cs zeroA
  refine (callsIn_wide (n := 3)).1 ?_
  refine callsIn_of_wp_marks Tryz.func28 rfl trivial ?_ rfl
  simp only [Tryz.ntmps28, List.size_toArray, List.length_cons, List.length_nil, Nat.reduceAdd, Nat.reduceSub, Array.replicate_succ, Array.replicate_zero, List.push_toArray, List.append_toArray, List.nil_append, List.cons_append]
  refine wpIn_wide.2 ?_
  go_upto_region 1 with (fail)
  obtain ⟨w0, hw0⟩ : ∃ w0, w0 = (w.alloc (.cells cs 27)).alloc (.cells zeroA 27) := ⟨_, rfl⟩
  rw [← hw0] at H0
  unfold zeroA at hw0
  rw [← hw0]
  clear hw0
  obtain ⟨h1, h2, hbl0⟩ := H0
  have HBL0 := Lib.hid hbl0
  obtain ⟨g, hg⟩ : ∃ g, g = w.heap.size := ⟨_, rfl⟩
  have HG := Lib.hid hg
  rw [← hg] at h1 h2 ⊢
  have HC0 := Lib.hid h1
  have HR0 := Lib.hid h2
  have hl0 := h2.lt
  clear h1 h2 hbl0 hg
  go_step3
  go_upto_region 2 with (first | (refine wpList_load_row rfl 27 _ rfl g rfl _ cs (0, 0) _ HC0.out HFS.out rfl (by rw [HS.out]; exact sizeSt) ?_) | ((with_reducible refine (HCP.out _ HBL0.out).mono ?_); rintro e1 w1 hp1; obtain ⟨x1, rfl, ho1, hb1⟩ := hp1; have HO1 := Lib.hid ho1; have HBW1 := Lib.hid hb1; clear hb1 ho1) | (refine wpList_store_row rfl 27 _ _ rfl _ (x1.arr s) rfl rfl 27 _ (heap_alloc_new _ _) (by kernel_rfl) rfl (arr_one _ _) ?_))
  have hl1 : g + 1 < w1.heap.size := by have := HBW1.out.size; omega
  have HST2 := Lib.hid (show StAt ((w1.alloc (.cells zeroA 27)).setRow w1.heap.size (x1.arr s)) w1.heap.size w0.heap.size x1 s from ⟨setRow_heap _ _ _ _ _ _ (heap_alloc_new _ _), (HO1.out.below (G.bl_alloc (Below.refl _ _) _)).only (only_row (G.Blk.new w1 27 zeroA)) (by decide) (by decide) (by decide) (by decide), HBW1.out.size⟩)
  have HB02 := Lib.hid (show Below w0.heap.size w0 ((w1.alloc (.cells zeroA 27)).setRow w1.heap.size (x1.arr s)) from below_setRow (G.bl_alloc HBW1.out _) HBW1.out.size _)
  obtain ⟨w2, hw2⟩ : ∃ w2, w2 = (w1.alloc (.cells zeroA 27)).setRow w1.heap.size (x1.arr s) := ⟨_, rfl⟩
  rw [← hw2] at HST2 HB02
  unfold zeroA at hw2
  rw [← hw2]
  clear hw2
  obtain ⟨g4, hg4⟩ : ∃ g7, g7 = w1.heap.size := ⟨_, rfl⟩
  rw [← hg4] at HST2 hl1 ⊢
  clear hg4
  go_upto_region 5 with (fail)
  have HF0 := four_objs w2 30 107 3 3 #[.slice none 0 0] #[.func (.func 74) #[] #[.pointer (some ⟨g4, 0, none⟩), .pointer (some ⟨w2.heap.size, 0, none⟩)]] #[.int .i64 0] #[.int .i64 0]
  obtain ⟨w5, hw5⟩ : ∃ w5, w5 = (((w2.alloc (.cells #[.slice none 0 0] 30)).alloc (.cells #[.func (.func 74) #[] #[.pointer (some ⟨g4, 0, none⟩), .pointer (some ⟨w2.heap.size, 0, none⟩)]] 107)).alloc (.cells #[.int .i64 0] 3)).alloc (.cells #[.int .i64 0] 3) := ⟨_, rfl⟩
  rw [← hw5]
  obtain ⟨h5, h6, h7, h8, hb25, hz5⟩ := HF0 w5 hw5
  obtain ⟨g5, hg5⟩ : ∃ q, q = w2.heap.size := ⟨_, rfl⟩
  have HG5 := Lib.hid hg5
  rw [← hg5] at h5 h6 h7 h8 hz5 ⊢
  have HX5 := Lib.hid (HC0.out.below (HB02.out.trans (hb25.mono HB02.out.size)) HC0.out.lt)
  clear hw5 HF0 hg5
  have HG45 := Lib.hid (show g4 < g5 by rw [HG5.out]; exact HST2.out.blk.lt)
  have HLE := Lib.hid (show w0.heap.size ≤ g5 by rw [HG5.out]; exact HB02.out.size)
  have HB85 := Lib.hid (show w5.heap.size = g5 + 1 + 1 + 1 + 1 from hz5)
  have HH6 := Lib.hid h6
  have HH7 := Lib.hid h7
  have HH8 := Lib.hid h8
  have HN5 := Lib.hid (show Now g4 g5 w0.heap.size (s, []) w5 from ⟨⟨x1, none, 0, 0, [], HST2.out.below hb25, h5, OwnEvs.nil _ _, rfl, fun i hi q hq => .inl (by have h9 := (HST2.out.own.rows i hi).lt q hq; rw [HG5.out]; exact h9.2), fun i hi => absurd hi (Nat.not_lt_zero _)⟩, HLE.out, by rw [hz5]; omega⟩)
  have HB05 := Lib.hid (show Below w0.heap.size w0 w5 from HB02.out.trans (hb25.mono HB02.out.size))
  clear h5 h6 h7 h8 hb25 hz5
  go_step3
  rename_i Ka hKa
  refine hKa _ _ ?_
  apply wp_seq_k
  intro K0 hK0
  apply wp_seq_k
  intro K1 hK1
  go_wp2_with (first | (refine wpList_load_row rfl 27 _ rfl g rfl _ cs (0, 0) _ HX5.out HFS.out rfl (by rw [HS.out]; exact sizeSt) ?_) | ((with_reducible refine (ring_any cs w5).mono ?_); rintro e6 w6 ⟨rfl, rfl⟩))
  obtain ⟨Bs, hBs⟩ : ∃ B, B = w5.heap.size := ⟨_, rfl⟩
  have HBS := Lib.hid (show g5 + 1 + 1 + 1 < Bs by have h1 := HB85.out; omega)
  have hbk : G.Blk (w5.alloc (.cells cs 27)) w5.heap.size 27 cs := G.Blk.new _ _ _
  have hb56 : Below w5.heap.size w5 (w5.alloc (.cells cs 27)) := G.bl_alloc (Below.refl _ _) _
  obtain ⟨wl, hwl⟩ : ∃ q, q = w5.alloc (.cells cs 27) := ⟨_, rfl⟩
  rw [← hwl, ← hBs] at hbk ⊢
  rw [← hwl] at hb56
  clear hwl
  have HBK := Lib.hid hbk
  have HXL := Lib.hid (HX5.out.below hb56 HX5.out.lt)
  have HL6 := Lib.hid (HH6.out.below hb56 HH6.out.lt)
  have HL7 := Lib.hid (HH7.out.below hb56 HH7.out.lt)
  have HL8 := Lib.hid (HH8.out.below hb56 HH8.out.lt)
  have HNL := Lib.hid (HN5.out.below hb56)
  have HB0L := Lib.hid (show Below w0.heap.size w0 wl from HB05.out.trans (hb56.mono HB05.out.size))
  have HBW := Lib.hid (show w0.heap.size ≤ wl.heap.size from HB0L.out.size)
  have HRL := Lib.hid (show RdSt wl x s from (HR.out.below HBL0.out).below HB0L.out)
  have HSEQ := Lib.hid (show SeqStopsK Fence.wide 2 Tryz.prog 93 #[.pointer (some ⟨Bs, 0, none⟩)] (encR s) (KpB w0.heap.size Bs) (fun xs => xs = List.range s.players.length) (fun pre => ∃ k, k < s.players.length ∧ pre = List.range (k + 1)) s.players.length wl from fun l J Jx W hW _ _ hY h0 =>
    ring1_in l Bs w0.heap.size x s HM.out J Jx hY W (by have h9 := HBK.out.below hW HBK.out.lt; rw [HCS.out] at h9; exact h9) h0)
  clear hBs hbk hb56
  have HEXB := Lib.hid (show Bs ∉ [g4, g5] by have h1 := HG45.out; have h2 := HBS.out; simp; omega)
  have HEX6 := Lib.hid (show g5 + 1 ∉ [g4, g5] by have h1 := HG45.out; simp; omega)
  have HEX1 := Lib.hid (show g + 1 ∉ [g4, g5] by have h1 := HLE.out; have h2 := hl0; simp; omega)
  have HEX := Lib.hid (show g ∉ [g4, g5] by have h1 := HLE.out; have h2 := hl0; simp; omega)
  have key : ∀ (D : Nat) (W : World), wl.heap.size ≤ D → W.heap[D]? = some (.deferred (some [])) → LpI [g4, g5] g4 g5 w0.heap.size wl (kacc s (List.range s.players.length)) W → K0 { tmps := #[.agg cs, .pointer (some ⟨g, 0, none⟩), .pointer (some ⟨(g + 1), 0, none⟩), .slice none 0 0, .pointer (some ⟨g4, 0, none⟩), .pointer (some ⟨g5, 0, none⟩), .pointer (some ⟨(g5 + 1), 0, none⟩), .pointer (some ⟨(g5 + 1 + 1), 0, none⟩), .pointer (some ⟨(g5 + 1 + 1 + 1), 0, none⟩), undef, undef, undef, undef, undef, undef, undef, .agg cs, x1.val s, .func (.func 74) #[] #[.pointer (some ⟨g4, 0, none⟩), .pointer (some ⟨g5, 0, none⟩)], .agg cs, .func (.func 93) #[] #[.pointer (some ⟨Bs, 0, none⟩)], undef, undef, undef, undef, undef, undef, undef, undef, undef, undef, undef, undef, undef, undef, undef, undef, undef, undef, undef, undef, undef, undef, undef, undef, undef, undef, undef, undef, undef, undef, undef, undef, undef, undef, undef, undef, undef, undef, undef, undef, undef, undef, undef, undef, undef, undef, undef, undef, undef, undef, undef, undef, undef, undef, undef, undef, undef, undef, undef, undef, undef, undef, undef, undef, undef, undef, undef, undef, undef, undef, undef, undef, undef, undef, undef, undef, undef, undef, undef, undef, undef, undef, undef, undef, undef, undef], defers := [{ target := .collected D, args := #[] }] } W := by
    as_aux_lemma =>
      intro D W1 hD hDW hI
      have HD := Lib.hid hD
      have HDW := Lib.hid hDW
      have HI1 := Lib.hid hI
      have HX1 := Lib.hid (hI.kp.blk HXL.out HEX.out (by decide))
      have H61 := Lib.hid (hI.kp.blk HL6.out HEX6.out (by decide))
      have H71 := Lib.hid (hI.kp.blk HL7.out (show g5 + 1 + 1 ∉ [g4, g5] by have h1 := HG45.out; simp; omega) (by decide))
      have H81 := Lib.hid (hI.kp.blk HL8.out (show g5 + 1 + 1 + 1 ∉ [g4, g5] by have h1 := HG45.out; simp; omega) (by decide))
      have HR1 := Lib.hid (hI.kp.blk (HR0.out.below HB0L.out HR0.out.lt) HEX1.out (by decide))
      have HBD1 := Lib.hid (Nat.le_trans HBW.out hI.kp.size)
      clear hD hDW hI
      refine hK0 _ _ ?_
      apply wp_seq_k
      intro K2 hK2
      go_step3
      refine hK2 _ _ ?_
      apply wp_seq_k
      intro K3 hK3
      apply wp_seq_k
      intro K4 hK4
      go_wp2_with (first | (refine wpList_load_row rfl 27 _ rfl g rfl _ cs (0, 0) _ HX1.out HFS.out rfl (by rw [HS.out]; exact sizeSt) ?_) | ((with_reducible refine (ring_any cs W1).mono ?_); rintro e6 w6 ⟨rfl, rfl⟩))
      obtain ⟨B2, hB2⟩ : ∃ B, B = W1.heap.size := ⟨_, rfl⟩
      have hbk : G.Blk (W1.alloc (.cells cs 27)) W1.heap.size 27 cs := G.Blk.new _ _ _
      have hb12 : Below W1.heap.size W1 (W1.alloc (.cells cs 27)) := G.bl_alloc (Below.refl _ _) _
      obtain ⟨wm, hwm⟩ : ∃ q, q = W1.alloc (.cells cs 27) := ⟨_, rfl⟩
      rw [← hwm, ← hB2] at hbk ⊢
      rw [← hwm] at hb12
      have HB2 := Lib.hid (show Bs < B2 by have h1 := HBK.out.lt; have h2 := HI1.out.kp.size; omega)
      clear hwm hB2
      have HBM := Lib.hid (show w0.heap.size ≤ wm.heap.size from Nat.le_trans HBD1.out hb12.size)
      have HMK := Lib.hid hbk
      have HMX := Lib.hid (HX1.out.below hb12 HX1.out.lt)
      have HM6 := Lib.hid (H61.out.below hb12 H61.out.lt)
      have HM7 := Lib.hid (H71.out.below hb12 H71.out.lt)
      have HM8 := Lib.hid (H81.out.below hb12 H81.out.lt)
      have HMR := Lib.hid (HR1.out.below hb12 HR1.out.lt)
      have HMN := Lib.hid (HI1.out.now.below hb12)
      have HMD := Lib.hid (show wm.heap[D]? = some (.deferred (some [])) from (hb12.block D (Array.getElem?_eq_some_iff.1 HDW.out).1).trans HDW.out)
      have HB0M := Lib.hid (show Below w0.heap.size w0 wm from (HB0L.out.trans HI1.out.kp.below).trans (hb12.mono HBD1.out))
      have HRM := Lib.hid (show RdSt wm x s from (HR.out.below HBL0.out).below HB0M.out)
      have HSEQ2 := Lib.hid (show SeqStopsK Fence.wide 2 Tryz.prog 93 #[.pointer (some ⟨B2, 0, none⟩)] (encR s) (KpB w0.heap.size B2) (fun xs => xs = List.range s.players.length) (fun pre => ∃ k, k < s.players.length ∧ pre = List.range (k + 1)) s.players.length wm from fun l J Jx W hW _ _ hY h0 =>
        ring1_in l B2 w0.heap.size x s HM.out J Jx hY W (by have h9 := HMK.out.below hW HMK.out.lt; rw [HCS.out] at h9; exact h9) h0)
      have hx4 : ∀ k, (k < g4 ∨ g5 + 1 + 1 + 1 < k ∨ k = g5 + 1) → k ∉ [g4, g5, g5 + 1 + 1, g5 + 1 + 1 + 1] := fun k hk => by have h1 := HG45.out; simp; omega
      have HXG := Lib.hid (hx4 g (.inl (by have h1 := hl1; omega)))
      have HXR := Lib.hid (hx4 (g + 1) (.inl hl1))
      have HX6 := Lib.hid (hx4 (g5 + 1) (.inr (.inr rfl)))
      have HXB := Lib.hid (hx4 B2 (.inr (.inl (by have h1 := HH8.out.lt; have h2 := HBS.out; have h3 := HB2.out; have h4 := HB85.out; omega))))
      clear hbk hb12 hx4
      have key2 : ∀ (D2 : Nat) (W : World), wm.heap.size ≤ D2 → W.heap[D2]? = some (.deferred (some [])) → DpI g4 g5 w0.heap.size wm s (List.range s.players.length) W → K3 { tmps := #[.agg cs, .pointer (some ⟨g, 0, none⟩), .pointer (some ⟨(g + 1), 0, none⟩), .slice none 0 0, .pointer (some ⟨g4, 0, none⟩), .pointer (some ⟨g5, 0, none⟩), .pointer (some ⟨(g5 + 1), 0, none⟩), .pointer (some ⟨(g5 + 1 + 1), 0, none⟩), .pointer (some ⟨(g5 + 1 + 1 + 1), 0, none⟩), undef, undef, undef, undef, undef, undef, undef, .agg cs, x1.val s, .func (.func 74) #[] #[.pointer (some ⟨g4, 0, none⟩), .pointer (some ⟨g5, 0, none⟩)], .agg cs, .func (.func 93) #[] #[.pointer (some ⟨Bs, 0, none⟩)], undef, undef, undef, undef, undef, undef, undef, undef, undef, undef, undef, undef, undef, undef, undef, undef, undef, undef, undef, undef, undef, undef, undef, undef, undef, undef, undef, undef, undef, undef, undef, undef, undef, undef, undef, undef, undef, undef, .agg cs, .func (.func 93) #[] #[.pointer (some ⟨B2, 0, none⟩)], undef, undef, undef, undef, undef, undef, undef, undef, undef, undef, undef, undef, undef, undef, undef, undef, undef, undef, undef, undef, undef, undef, undef, undef, undef, undef, undef, undef, undef, undef, undef, undef, undef, undef, undef, undef, undef, undef, undef, undef, undef, undef, undef, undef, undef, undef], defers := [{ target := .collected D2, args := #[] }, { target := .collected D, args := #[] }] } W := by
        as_aux_lemma =>
          intro D2 W2 hD2 hDW2 hI2
          have HI2 := Lib.hid hI2
          have HD2 := Lib.hid hD2
          have HDW2 := Lib.hid hDW2
          have HDW1 := Lib.hid (hI2.kp.far D _ HMD.out (fun _ => rfl) rfl)
          have HX2 := Lib.hid (hI2.kp.blk HMX.out HXG.out (by decide))
          have H62 := Lib.hid (hI2.kp.blk HM6.out HX6.out (by decide))
          have HR2 := Lib.hid (hI2.kp.blk HMR.out HXR.out (by decide))
          have HBD2 := Lib.hid (show w0.heap.size ≤ W2.heap.size from Nat.le_trans HBM.out hI2.kp.size)
          obtain ⟨v, u, h7, h8, h78⟩ := hI2.box
          have c7 := h7.cell 0
          have c8 := h8.cell 0
          have H7 := Lib.hid h7
          have H8 := Lib.hid h8
          have c5 : W2.cell? ⟨g, 5, none⟩ = some (.int .i8 s.fin) := by have h9 := HX2.out; rw [HCS.out] at h9; exact h9.cell 5
          have lx := HX2.out.lt
          obtain ⟨f, hf⟩ : ∃ q, q = s.fin := ⟨_, rfl⟩
          rw [← hf] at c5
          have HF := Lib.hid hf.symm
          have H78 := Lib.hid h78
          clear hf hI2 hD2 hDW2 h7 h8 h78
          refine hK3 _ _ ?_
          apply wp_seq_k
          intro K5 hK5
          try dsimp only
          go_cut [] from 88 to 104 (fun wx => Now g4 g5 w0.heap.size (dueP s) wx ∧ AddK [g4, g5, g5 + 1 + 1, g5 + 1 + 1 + 1] w0.heap.size W2 wx)
          case rest =>
            obtain ⟨hnz, hkz⟩ := hcut
            have HNZ := Lib.hid hnz
            have HKZ := Lib.hid hkz
            clear hnz hkz
            refine hK5 _ _ ?_
            apply wp_seq_k
            intro K9 hK9
            obtain ⟨⟨xz, Az, nz, cz, Lz, hstz, hbz, howz, hLz, _, _⟩, hlez, hltz⟩ := HNZ.out
            have HSTZ := Lib.hid hstz
            have HOEV := Lib.hid howz
            have HLZ := Lib.hid hLz
            obtain ⟨cy, hcy⟩ : ∃ q, q = xz.arr (dueP s).1 := ⟨_, rfl⟩
            have HCY := Lib.hid hcy
            have HSY := Lib.hid (show cy.size = 7 by rw [hcy]; rfl)
            have HAY := Lib.hid (show cy.all (·.oneCell') = true by rw [hcy]; exact arr_one _ _)
            have HKY := Lib.hid (show G.Blk wc.drew g4 27 cy by rw [hcy]; exact hstz.blk)
            have HCZ := Lib.hid (show wc.drew.cell? ⟨g5, 0, none⟩ = some (.slice Az nz cz) from hbz.cell 0)
            have HRZ := Lib.hid (show G.Blk wc.drew (g + 1) 27 zeroA from HKZ.out.blk HR2.out HXR.out (by decide))
            have HZ1 := Lib.hid (show wc.heap[D]? = some (.deferred (some [])) from HKZ.out.far D _ HDW1.out (fun _ => rfl) rfl)
            have HZ2 := Lib.hid (show wc.heap[D2]? = some (.deferred (some [])) from HKZ.out.far D2 _ HDW2.out (fun _ => rfl) rfl)
            have hg45 := HG45.out
            clear hstz hbz howz hLz hlez hltz hcy
            have hDD := due_done cy HSTZ.out.own HOEV.out HRZ.out (HBL0.out.trans ((HB0M.out.trans (HI2.out.kp.below.trans HKZ.out.below)).mono HBL0.out.size)) (by have h1 := HG.out; omega) HBL0.out.size HZ1.out HZ2.out (show D ≠ D2 by have h1 := (Array.getElem?_eq_some_iff.1 HMD.out).1; have h2 := HD2.out; omega) (show g + 1 < D by have h1 := HD.out; have h2 := HBW.out; omega) (show g + 1 < D2 by have h1 := HD2.out; have h2 := HBM.out; omega)
            have HDD := Lib.hid hDD
            clear hDD
            have czz := HCZ.out
            refine wp_region_held_drew (S := fun V => G.Blk V g4 27 cy ∧ V.cell? ⟨g5, 0, none⟩ = some (.slice Az nz cz)) (by kernel_rfl) ?_ (fun hHeld => ?_)
            · exact ⟨HKY.out, HCZ.out⟩
            refine wpAnyH_ready (rs := [0, 1]) (by kernel_rfl) (by simp) ?_
            refine AllReadyH.cons rfl (fun K hK => ?_) ?_
            · refine wpK_load_held (by rfl) 27 (.tmp 4) rfl g4 rfl cy (run_st HKY.out HSY.out) ?_
              refine hK.out _ _ ?_ (fun hHeld => ?_)
              · exact hHeld
              clear hK K
              try simp only [Act.put, List.setIfInBounds_toArray, List.set_cons_zero, List.set_cons_succ]
              refine wpAnyH_ready (rs := [1, 2]) (by kernel_rfl) (by simp) ?_
              refine AllReadyH.cons rfl (fun K hK => ?_) ?_
              · have q5 := hHeld.2
                go_simp
                go_wp2_with fail
                refine hK.out _ _ ?_ (fun hHeld => ?_)
                · exact hHeld
                clear hK K
                try simp only [Act.put, List.setIfInBounds_toArray, List.set_cons_zero, List.set_cons_succ]
                refine wpAnyH_ready (rs := [2]) (by kernel_rfl) (by simp) ?_
                refine AllReadyH.cons rfl (fun K hK => ?_) AllReadyH.nil
                refine wp_store_row 27 (.tmp 2) (.tmp 105) rfl _ cy rfl rfl 27 zeroA HRZ.out (by rw [HSY.out]; exact sizeSt) (by rw [HSY.out]; rfl) HAY.out ?_
                try simp only [Act.put, List.getElem_toArray, List.getElem_cons_succ, List.getElem_cons_zero]
                refine hK.out _ _ ?_ (fun hHeld => ?_)
                · exact ⟨(setRow_other _ _ _ _ (by omega)).trans HKY.out, (World.cell?_of_block (a := ⟨g5, 0, none⟩) (setRow_other _ _ _ _ (by show g5 ≠ g + 1; omega))).trans HCZ.out⟩
                clear hK K
                try simp only [Act.put, List.setIfInBounds_toArray, List.set_cons_zero, List.set_cons_succ]
                refine wpAnyH_ready (rs := [3]) (by kernel_rfl) (by simp) ?_
                refine AllReadyH.cons rfl (fun K hK => ?_) AllReadyH.nil
                go_simp
                go_wp2_with fail
                refine hK.out _ _ ?_ (fun hHeld => ?_)
                · exact hHeld
                clear hK K
                try simp only [Act.put, List.setIfInBounds_toArray, List.set_cons_zero, List.set_cons_succ]
                refine wpAnyH_done (by kernel_rfl) ?_ _
                go_wp2_with fail
                obtain ⟨q1, q2, q3, q4, q5, q6⟩ := HDD.out
                refine ⟨by simp, .inl ⟨_, _, rfl, run_takeDeferred q1, ?_⟩⟩
                refine ⟨by simp, .inl ⟨_, _, rfl, run_takeDeferred q2, ?_⟩⟩
                refine ⟨.tuple #[.agg cy, .slice Az nz cz], st_results2 rfl _ _ (g + 1) cy _ rfl rfl q3 HSY.out, xz, Az, nz, cz, Lz, ?_, q4, q5, HLZ.out, q6⟩
                rw [HCY.out]
                rfl
              refine AllReadyH.cons rfl (fun K hK => ?_) ?_
              · refine wp_store_row 27 (.tmp 2) (.tmp 105) rfl _ cy rfl rfl 27 zeroA HRZ.out (by rw [HSY.out]; exact sizeSt) (by rw [HSY.out]; rfl) HAY.out ?_
                try simp only [Act.put, List.getElem_toArray, List.getElem_cons_succ, List.getElem_cons_zero]
                refine hK.out _ _ ?_ (fun hHeld => ?_)
                · exact ⟨(setRow_other _ _ _ _ (by omega)).trans HKY.out, (World.cell?_of_block (a := ⟨g5, 0, none⟩) (setRow_other _ _ _ _ (by show g5 ≠ g + 1; omega))).trans HCZ.out⟩
                clear hK K
                try simp only [Act.put, List.setIfInBounds_toArray, List.set_cons_zero, List.set_cons_succ]
                refine wpAnyH_ready (rs := [1]) (by kernel_rfl) (by simp) ?_
                refine AllReadyH.cons rfl (fun K hK => ?_) AllReadyH.nil
                have q5 := hHeld.2
                go_simp
                go_wp2_with fail
                refine hK.out _ _ ?_ (fun hHeld => ?_)
                · exact hHeld
                clear hK K
                try simp only [Act.put, List.setIfInBounds_toArray, List.set_cons_zero, List.set_cons_succ]
                refine wpAnyH_ready (rs := [3]) (by kernel_rfl) (by simp) ?_
                refine AllReadyH.cons rfl (fun K hK => ?_) AllReadyH.nil
                go_simp
                go_wp2_with fail
                refine hK.out _ _ ?_ (fun hHeld => ?_)
                · exact hHeld
                clear hK K
                try simp only [Act.put, List.setIfInBounds_toArray, List.set_cons_zero, List.set_cons_succ]
                refine wpAnyH_done (by kernel_rfl) ?_ _
                go_wp2_with fail
                obtain ⟨q1, q2, q3, q4, q5, q6⟩ := HDD.out
                refine ⟨by simp, .inl ⟨_, _, rfl, run_takeDeferred q1, ?_⟩⟩
                refine ⟨by simp, .inl ⟨_, _, rfl, run_takeDeferred q2, ?_⟩⟩
                refine ⟨.tuple #[.agg cy, .slice Az nz cz], st_results2 rfl _ _ (g + 1) cy _ rfl rfl q3 HSY.out, xz, Az, nz, cz, Lz, ?_, q4, q5, HLZ.out, q6⟩
                rw [HCY.out]
                rfl
              exact AllReadyH.nil
            refine AllReadyH.cons rfl (fun K hK => ?_) ?_
            · have q5 := hHeld.2
              go_simp
              go_wp2_with fail
              refine hK.out _ _ ?_ (fun hHeld => ?_)
              · exact hHeld
              clear hK K
              try simp only [Act.put, List.setIfInBounds_toArray, List.set_cons_zero, List.set_cons_succ]
              refine wpAnyH_ready (rs := [0]) (by kernel_rfl) (by simp) ?_
              refine AllReadyH.cons rfl (fun K hK => ?_) AllReadyH.nil
              refine wpK_load_held (by rfl) 27 (.tmp 4) rfl g4 rfl cy (run_st HKY.out HSY.out) ?_
              refine hK.out _ _ ?_ (fun hHeld => ?_)
              · exact hHeld
              clear hK K
              try simp only [Act.put, List.setIfInBounds_toArray, List.set_cons_zero, List.set_cons_succ]
              refine wpAnyH_ready (rs := [2]) (by kernel_rfl) (by simp) ?_
              refine AllReadyH.cons rfl (fun K hK => ?_) AllReadyH.nil
              refine wp_store_row 27 (.tmp 2) (.tmp 105) rfl _ cy rfl rfl 27 zeroA HRZ.out (by rw [HSY.out]; exact sizeSt) (by rw [HSY.out]; rfl) HAY.out ?_
              try simp only [Act.put, List.getElem_toArray, List.getElem_cons_succ, List.getElem_cons_zero]
              refine hK.out _ _ ?_ (fun hHeld => ?_)
              · exact ⟨(setRow_other _ _ _ _ (by omega)).trans HKY.out, (World.cell?_of_block (a := ⟨g5, 0, none⟩) (setRow_other _ _ _ _ (by show g5 ≠ g + 1; omega))).trans HCZ.out⟩
              clear hK K
              try simp only [Act.put, List.setIfInBounds_toArray, List.set_cons_zero, List.set_cons_succ]
              refine wpAnyH_ready (rs := [3]) (by kernel_rfl) (by simp) ?_
              refine AllReadyH.cons rfl (fun K hK => ?_) AllReadyH.nil
              go_simp
              go_wp2_with fail
              refine hK.out _ _ ?_ (fun hHeld => ?_)
              · exact hHeld
              clear hK K
              try simp only [Act.put, List.setIfInBounds_toArray, List.set_cons_zero, List.set_cons_succ]
              refine wpAnyH_done (by kernel_rfl) ?_ _
              go_wp2_with fail
              obtain ⟨q1, q2, q3, q4, q5, q6⟩ := HDD.out
              refine ⟨by simp, .inl ⟨_, _, rfl, run_takeDeferred q1, ?_⟩⟩
              refine ⟨by simp, .inl ⟨_, _, rfl, run_takeDeferred q2, ?_⟩⟩
              refine ⟨.tuple #[.agg cy, .slice Az nz cz], st_results2 rfl _ _ (g + 1) cy _ rfl rfl q3 HSY.out, xz, Az, nz, cz, Lz, ?_, q4, q5, HLZ.out, q6⟩
              rw [HCY.out]
              rfl
            exact AllReadyH.nil
          by_cases hf0 : f = 0
          · subst hf0
            obtain ⟨hv, hu⟩ := H78.out HF.out
            rw [inR_all] at hv
            have HV := Lib.hid hv
            have HU := Lib.hid hu
            have hv0 : 0 ≤ v := by omega
            clear hv hu
            by_cases hv2 : v < 2
            · have HV2 := Lib.hid (show (inL s).length < 2 by have h1 := HV.out; omega)
              apply wp_seq_k
              intro K6 hK6
              go_upto_region 26 with (fail)
              generalize hW3 : W2.alloc (.cells #[.int .i8 7, .int .i8 0, .int .i64 0, .int .i64 u, .int .i64 0, .int .i64 0, .int .i64 0, .int .i64 0, .int .i64 0, .int .i32 0, .int .i32 1, .slice none 0 0] 37) = W3
              have hb23 : Below W2.heap.size W2 W3 := by rw [← hW3]; exact G.bl_alloc (Below.refl _ _) _
              have hkE : G.Blk W3 W2.heap.size 37 #[.int .i8 7, .int .i8 0, .int .i64 0, .int .i64 u, .int .i64 0, .int .i64 0, .int .i64 0, .int .i64 0, .int .i64 0, .int .i32 0, .int .i32 1, .slice none 0 0] := by rw [← hW3]; exact G.Blk.new _ _ _
              generalize hgE : W2.heap.size = gE at hkE ⊢
              have HKE := Lib.hid hkE
              have HB23 := Lib.hid hb23
              have HGE := Lib.hid hgE
              have c7 := (H7.out.below hb23 H7.out.lt).cell 0
              have e10 := hkE.cell 10
              have f10 := hkE.frozen 10
              have e3 := hkE.cell 3
              have f3 := hkE.frozen 3
              have lE := hkE.lt
              have HEND := Lib.hid (endOf_eq2 HV.out HU.out)
              clear hW3 hb23 hkE hgE c8 lx c5
              by_cases hv00 : v = 0
              · subst hv00
                go_upto_region 28 with (fail)
                have hkE4 := (HKE.out.put 10 (.int .i32 2)).put 3 (.int .i64 0)
                have HB24 := Lib.hid (show Below W2.heap.size W2 ((W3.setCell ⟨gE, 10, none⟩ (.int .i32 2)).setCell ⟨gE, 3, none⟩ (.int .i64 0)) from (HB23.out.setCell (p := ⟨gE, 10, none⟩) (Nat.le_of_eq HGE.out) _).setCell (p := ⟨gE, 3, none⟩) (Nat.le_of_eq HGE.out) _)
                generalize hW4 : (W3.setCell ⟨gE, 10, none⟩ (.int .i32 2)).setCell ⟨gE, 3, none⟩ (.int .i64 0) = W4 at HB24 hkE4 ⊢
                obtain ⟨ce, hce⟩ : ∃ q, q = (⟨none, 0⟩ : EV).arr ({ zeroEv with kind := 7, now := 2, player := 0 }) := ⟨_, rfl⟩
                have HCE := Lib.hid hce
                have HSE := Lib.hid (show ce.size = 12 by rw [hce]; rfl)
                have HKE5 := Lib.hid (show G.Blk W4 gE 37 ce by rw [hce]; exact hkE4)
                have HN4 := Lib.hid (show Now g4 g5 w0.heap.size (dropS s) W4 from by rw [← dacc_all HF.out]; exact HI2.out.now.below HB24.out)
                have hgd := dacc_good HM.out (List.range s.players.length)
                rw [dacc_all HF.out] at hgd
                have h64 := H62.out.below HB24.out H62.out.lt
                have c6 := h64.cell 0
                have l6 := h64.lt
                have HADD := Lib.hid (show Calls Tryz.prog 74 #[.slice (some ⟨W4.heap.size, 0, none⟩) 1 1, .int .i64 0, .pointer (some ⟨g4, 0, none⟩), .pointer (some ⟨g5, 0, none⟩)] (W4.alloc (.cells ce 37)) (AddPost g4 g5 w0.heap.size (dropS s) [endOf (inL s)] (W4.alloc (.cells ce 37))) by
                  rw [hce]
                  exact add_asked g4 g5 w0.heap.size (dropS s) _ 1 1 W4.heap.size [(⟨none, 0⟩, { zeroEv with kind := 7, now := 2, player := 0 })] _ _ (HN4.out.below (G.bl_alloc (Below.refl _ _) _)) hgd.1.may (own_one W4 rfl) HN4.out.lt (by rw [HEND.out, if_pos rfl]; rfl) (end_can HM.out HF.out HV2.out) (by have h1 := hgd.2; have h2 := HM.out.n4; rw [List.length_range] at h1; omega))
                have HB25 := Lib.hid (show AddK [g4, g5, g5 + 1 + 1, g5 + 1 + 1 + 1] w0.heap.size W2 (W4.alloc (.cells ce 37)) from AddK.of (G.bl_alloc HB24.out _) HBD2.out)
                obtain ⟨iE, hiE, hzE0, hzE1, hzE2⟩ := info_parts infoEv
                have HIE := Lib.hid (And.intro hiE (And.intro hzE0 (And.intro hzE1 hzE2)))
                clear hce hkE4 hgd h64 hW4 hiE hzE0 hzE1 hzE2 e10 f10 e3 f3 c7
                go_wp2_with (first | (refine wpList_load_row rfl 37 _ rfl gE rfl _ ce (0, 0) _ HKE5.out HFE.out rfl (by rw [HSE.out]; exact sizeEv) ?_) | (refine wpList_buildOne rfl 30 37 (.tmp 102) rfl ce rfl iE (.agg zeroE) Tryz.underlying30 HIE.out.1 HIE.out.2.1 (by rw [HIE.out.2.2.1]; decide) (by rw [HIE.out.2.2.1]; decide) (fill_evs HCE.out HIE.out.2.2.1) ?_) | ((with_reducible refine (HADD.out).mono ?_); rintro e8 w8 hp8; obtain ⟨v8, rfl, hn8, hk8⟩ := hp8; have HN8 := Lib.hid hn8; have HK8 := Lib.hid hk8; clear hn8 hk8))
                have HNZ := Lib.hid (show Now g4 g5 w0.heap.size (dueP s) w8 from by rw [dueP_on HF.out, if_pos HV2.out]; exact HN8.out)
                have HKZ := Lib.hid (HB25.out.trans (HK8.out.mono (fun q hq => by simp at hq ⊢; omega)))
                go_meet
                case rel => exact ⟨HNZ.out, HKZ.out⟩
              · have hvb : (v == 0) = false := by simpa using hv00
                have HVB := Lib.hid hv00
                go_upto_region 28 with (fail)
                have hkE4 := HKE.out
                have HB24 := HB23
                generalize hW4 : W3 = W4 at HB24 hkE4 ⊢
                obtain ⟨ce, hce⟩ : ∃ q, q = (⟨none, 0⟩ : EV).arr ({ zeroEv with kind := 7, now := 1, player := u }) := ⟨_, rfl⟩
                have HCE := Lib.hid hce
                have HSE := Lib.hid (show ce.size = 12 by rw [hce]; rfl)
                have HKE5 := Lib.hid (show G.Blk W4 gE 37 ce by rw [hce]; exact hkE4)
                have HN4 := Lib.hid (show Now g4 g5 w0.heap.size (dropS s) W4 from by rw [← dacc_all HF.out]; exact HI2.out.now.below HB24.out)
                have hgd := dacc_good HM.out (List.range s.players.length)
                rw [dacc_all HF.out] at hgd
                have h64 := H62.out.below HB24.out H62.out.lt
                have c6 := h64.cell 0
                have l6 := h64.lt
                have HADD := Lib.hid (show Calls Tryz.prog 74 #[.slice (some ⟨W4.heap.size, 0, none⟩) 1 1, .int .i64 0, .pointer (some ⟨g4, 0, none⟩), .pointer (some ⟨g5, 0, none⟩)] (W4.alloc (.cells ce 37)) (AddPost g4 g5 w0.heap.size (dropS s) [endOf (inL s)] (W4.alloc (.cells ce 37))) by
                  rw [hce]
                  exact add_asked g4 g5 w0.heap.size (dropS s) _ 1 1 W4.heap.size [(⟨none, 0⟩, { zeroEv with kind := 7, now := 1, player := u })] _ _ (HN4.out.below (G.bl_alloc (Below.refl _ _) _)) hgd.1.may (own_one W4 rfl) HN4.out.lt (by rw [HEND.out, if_neg HVB.out]; rfl) (end_can HM.out HF.out HV2.out) (by have h1 := hgd.2; have h2 := HM.out.n4; rw [List.length_range] at h1; omega))
                have HB25 := Lib.hid (show AddK [g4, g5, g5 + 1 + 1, g5 + 1 + 1 + 1] w0.heap.size W2 (W4.alloc (.cells ce 37)) from AddK.of (G.bl_alloc HB24.out _) HBD2.out)
                obtain ⟨iE, hiE, hzE0, hzE1, hzE2⟩ := info_parts infoEv
                have HIE := Lib.hid (And.intro hiE (And.intro hzE0 (And.intro hzE1 hzE2)))
                clear hce hkE4 hgd h64 hW4 hiE hzE0 hzE1 hzE2 e10 f10 e3 f3 c7
                go_wp2_with (first | (refine wpList_load_row rfl 37 _ rfl gE rfl _ ce (0, 0) _ HKE5.out HFE.out rfl (by rw [HSE.out]; exact sizeEv) ?_) | (refine wpList_buildOne rfl 30 37 (.tmp 102) rfl ce rfl iE (.agg zeroE) Tryz.underlying30 HIE.out.1 HIE.out.2.1 (by rw [HIE.out.2.2.1]; decide) (by rw [HIE.out.2.2.1]; decide) (fill_evs HCE.out HIE.out.2.2.1) ?_) | ((with_reducible refine (HADD.out).mono ?_); rintro e8 w8 hp8; obtain ⟨v8, rfl, hn8, hk8⟩ := hp8; have HN8 := Lib.hid hn8; have HK8 := Lib.hid hk8; clear hn8 hk8))
                have HNZ := Lib.hid (show Now g4 g5 w0.heap.size (dueP s) w8 from by rw [dueP_on HF.out, if_pos HV2.out]; exact HN8.out)
                have HKZ := Lib.hid (HB25.out.trans (HK8.out.mono (fun q hq => by simp at hq ⊢; omega)))
                go_meet
                case rel => exact ⟨HNZ.out, HKZ.out⟩
            · go_wp2_with fail
              have HNZ := Lib.hid (show Now g4 g5 w0.heap.size (dueP s) W2 from by rw [dueP_on HF.out, if_neg (by have h1 := HV.out; omega), ← dacc_all HF.out]; exact HI2.out.now)
              have HKZ := Lib.hid (AddK.refl [g4, g5, g5 + 1 + 1, g5 + 1 + 1 + 1] w0.heap.size W2)
              go_meet
              case rel => exact ⟨HNZ.out, HKZ.out⟩
          · go_wp2_with fail
            have HNZ := Lib.hid (show Now g4 g5 w0.heap.size (dueP s) W2 from by rw [dueP_end (by rw [HF.out]; exact hf0), ← dacc_end (s := s) (by rw [HF.out]; exact hf0) (List.range s.players.length)]; exact HI2.out.now)
            have HKZ := Lib.hid (AddK.refl [g4, g5, g5 + 1 + 1, g5 + 1 + 1 + 1] w0.heap.size W2)
            go_meet
            case rel => exact ⟨HNZ.out, HKZ.out⟩
      refine (wpIn_wide (n := 3)).1 ?_
      refine G.rangeFunc_box (gf := 93) (lb := #[.pointer (some ⟨B2, 0, none⟩)]) rfl (enters_of Tryz.func93 (by kernel_rfl) rfl)
        HSEQ2.out (fun h k => h.trans k) (KpB.put HBM.out HMK.out.lt) (Below.refl _ _) (fun _ => rfl)
        (fun pre W => DpI g4 g5 w0.heap.size wm s pre W)
        (fun pre k a1 W => a1 = { tmps := #[.agg cs, .pointer (some ⟨g, 0, none⟩), .pointer (some ⟨(g + 1), 0, none⟩), .slice none 0 0, .pointer (some ⟨g4, 0, none⟩), .pointer (some ⟨g5, 0, none⟩), .pointer (some ⟨(g5 + 1), 0, none⟩), .pointer (some ⟨(g5 + 1 + 1), 0, none⟩), .pointer (some ⟨(g5 + 1 + 1 + 1), 0, none⟩), undef, undef, undef, undef, .int .i64 (ringAt s k), undef, undef, .agg cs, x1.val s, .func (.func 74) #[] #[.pointer (some ⟨g4, 0, none⟩), .pointer (some ⟨g5, 0, none⟩)], .agg cs, .func (.func 93) #[] #[.pointer (some ⟨Bs, 0, none⟩)], undef, undef, undef, undef, undef, undef, undef, undef, undef, undef, undef, undef, undef, undef, undef, undef, undef, undef, undef, undef, undef, undef, undef, undef, undef, undef, undef, undef, undef, undef, undef, undef, undef, undef, undef, undef, undef, undef, .agg cs, .func (.func 93) #[] #[.pointer (some ⟨B2, 0, none⟩)], .int .i64 (ringAt s k), undef, undef, undef, undef, undef, undef, undef, undef, undef, undef, undef, undef, undef, undef, undef, undef, undef, undef, undef, undef, undef, undef, undef, undef, undef, undef, undef, undef, undef, undef, undef, undef, undef, undef, undef, undef, undef, undef, undef, undef, undef, undef, undef, undef, undef], defers := [] } ∧ pre.length < s.players.length ∧ DpI g4 g5 w0.heap.size wm s pre W)
        (fun cd pre W => cd = .exit 4 ∧ s.fin ≠ 0 ∧ DpI g4 g5 w0.heap.size wm s [] W)
        (DpI.own (Nat.le_refl _) HBM.out) ?own1 ?ownx (DpI.start (by rw [dacc_nil]; exact HMN.out) HM7.out HM8.out) ?assign ?body ?done ?stop
      case own1 =>
        intro k a1 pre W W' row h hg hr
        exact ⟨h.1, h.2.1, (DpI.own (Nat.le_refl _) HBM.out) pre W W' row h.2.2 hg hr⟩
      case ownx =>
        intro cd pre W W' row h hg hr
        exact ⟨h.1, h.2.1, (DpI.own (Nat.le_refl _) HBM.out) [] W W' row h.2.2 hg hr⟩
      case done =>
        rintro D2 xs W hD2 rfl hI hK
        exact key2 D2 W hD2 hK hI
      case stop =>
        rintro D2 cd pre W hD2 _ ⟨rfl, hf, hI⟩ hK
        refine wpIn_exit ?_
        exact key2 D2 W hD2 hK (hI.ends hf _)
      case assign =>
        intro l pre k W K hI hlen hK
        unfold encR
        simp only [List.zip_toArray, List.zip_cons_cons, List.zip_nil_right, List.foldl_toArray, List.foldl_toArray', List.foldl_cons, List.foldl_nil, List.setIfInBounds_toArray, List.set_cons_succ, List.set_cons_zero]
        refine G.list_round ?_ ?_ ?_
        · rfl
        · rintro ⟨_, _, h9⟩
          exact h9
        go_wp2
        exact hK _ _ ((KeepsOthers.refl _).from _) (KpB.refl _ _ _) ⟨rfl, hlen, hI⟩
      case body =>
        as_aux_lemma =>
          rintro l pre k a1 W ⟨rfl, hlen, hi⟩
          have HI := Lib.hid hi
          obtain ⟨p, hp⟩ : ∃ p : Nat, ringAt s k = (p : Int) := ⟨(ringAt s k).toNat, by have := (ringAt_in HM.out k).1; omega⟩
          have hpl : p < s.players.length := by have := (ringAt_in HM.out k).2; omega
          have HP := Lib.hid hp
          rw [hp]
          have HXW := Lib.hid (HI.out.kp.blk HMX.out HXG.out (by decide))
          clear hi hp
          obtain ⟨c0, c1, c2⟩ : W.cell? ⟨g, 0, none⟩ = some (.slice x.pa s.players.length x.pc) ∧ W.cell? ⟨g, 1, none⟩ = some (.slice x.ca s.cards.length x.cc) ∧ W.cell? ⟨g, 2, none⟩ = some (.slice x.za s.zones.length x.zc) := by have h9 := HXW.out; rw [HCS.out] at h9; exact ⟨h9.cell 0, h9.cell 1, h9.cell 2⟩
          have l0 := HXW.out.lt
          have HRW := Lib.hid (show RdSt W x s from HR.out.below (HBL0.out.trans ((HB0M.out.trans HI.out.kp.below).mono HBL0.out.size)))
          obtain ⟨bp, op, hpa, hbp, hrunp⟩ := pl_whole HRW.out.p hpl
          rw [hpa] at c0
          obtain ⟨pn, hpn⟩ : ∃ q, q = s.players.length := ⟨_, rfl⟩
          rw [← hpn] at c0 hpl hlen
          have hpI : (p : Int) < pn := by omega
          have hp0 : (0 : Int) ≤ p := by omega
          have hp4 : pn ≤ 4 := by rw [hpn]; exact HM.out.n4
          have HPW := Lib.hid (show Within (p : Int) s.players.length from ⟨hp0, by rw [← hpn]; exact hpI⟩)
          obtain ⟨pd, hpd⟩ : ∃ q, q = s.players.getD p zeroPl := ⟨_, rfl⟩
          rw [← hpd] at hrunp
          have HPD := Lib.hid (show plAt s (p : Int) = pd by rw [hpd]; unfold plAt; rw [Int.toNat_natCast])
          obtain ⟨cc, hcc⟩ : ∃ q, q = pd.cells.toArray := ⟨_, rfl⟩
          rw [← hcc] at hrunp
          have HRC := Lib.hid hrunp
          have HSC := Lib.hid (show cc.size = 3 by rw [hcc]; rfl)
          have HAC := Lib.hid (show cc.all (·.oneCell') = true by rw [hcc]; simp [Pl.cells, Value.oneCell'])
          have HQ0 := Lib.hid (show cc[0]? = some (.int .i32 pd.life) by rw [hcc]; rfl)
          have HQ2 := Lib.hid (show cc[2]? = some (.bool pd.out) by rw [hcc]; rfl)
          obtain ⟨li, hli⟩ : ∃ q, q = pd.life := ⟨_, rfl⟩
          obtain ⟨ou, hou⟩ : ∃ q, q = pd.out := ⟨_, rfl⟩
          rw [← hli] at HQ0
          rw [← hou] at HQ2
          have HLI := Lib.hid (show (plAt s (p : Int)).life = li by rw [HPD.out, hli])
          have HOU := Lib.hid (show (plAt s (p : Int)).out = ou by rw [HPD.out, hou])
          clear hpa hrunp hpn hpd hcc hli hou
          refine wpIn_block ?_
          apply wpIn_seq_k
          intro K5 hK5
          refine G.list_round ?_ ?_ ?_
          · rfl
          · rintro ⟨_, _, h9⟩
            exact h9
          go_wp2_with (first | (refine wpList_load_run (by rfl) 44 _ rfl bp (op + p * 3) rfl cc HRC.out ?_) | (refine wpList_store_row rfl 44 _ _ rfl _ cc rfl rfl 44 _ (heap_alloc_new _ _) (by rw [HSC.out]; exact sizePl25) (by rw [HSC.out]; rfl) HAC.out ?_))
          generalize hwA : World.setRow _ _ _ = wA
          have hqA : Below W.heap.size W wA := by rw [← hwA]; exact below_setRow (G.bl_alloc (Below.refl _ _) _) (Nat.le_refl _) _
          have hrA : G.Blk wA W.heap.size 44 cc := by rw [← hwA]; exact setRow_heap _ _ _ _ _ _ (heap_alloc_new _ _)
          have HWW := Lib.hid (show w0.heap.size ≤ W.heap.size from Nat.le_trans HBM.out HI.out.kp.size)
          have HKA := Lib.hid (show AddK [g4, g5, g5 + 1 + 1, g5 + 1 + 1 + 1] w0.heap.size W wA from AddK.of hqA HWW.out)
          have HIA := Lib.hid (show DpI g4 g5 w0.heap.size wm s pre wA from HI.out.below hqA HBM.out)
          have HRA := Lib.hid hrA
          have HXA := Lib.hid (HXW.out.below hqA HXW.out.lt)
          generalize hgC : W.heap.size = gC at hrA HRA ⊢
          have dA := (HRA.out.cell 0).trans HQ0.out
          have eA := (HRA.out.cell 2).trans HQ2.out
          have lA := HRA.out.lt
          have c5 : wA.cell? ⟨g, 5, none⟩ = some (.int .i8 s.fin) := by have h9 := HXA.out; rw [HCS.out] at h9; exact h9.cell 5
          have lx := HXA.out.lt
          obtain ⟨f, hf⟩ : ∃ q, q = s.fin := ⟨_, rfl⟩
          rw [← hf] at c5
          have HF := Lib.hid hf.symm
          clear hf hwA hqA hrA c0 c1 c2 l0
          refine wpIn_block ?_
          apply wpIn_seq_k
          intro K6 hK6
          by_cases hf0 : f = 0
          · subst hf0
            refine G.list_round ?_ ?_ ?_
            · rfl
            · rintro ⟨_, _, h9⟩
              exact h9
            go_wp2_with fail
            refine wpIn_cond_false rfl ?_
            apply wpIn_seq_k
            intro K8 hK8
            refine G.list_round ?_ ?_ ?_
            · rfl
            · rintro ⟨_, _, h9⟩
              exact h9
            go_wp2_with fail
            cases ou with
            | true =>
              refine wpIn_cond_true rfl ?_
              refine wpIn_skip ?_
              obtain ⟨q1, q2⟩ := HKA.out.fin (B := wm.heap.size) (Bs := B2) (HI.out.kp.blk HMK.out HXB.out (by decide)) HXB.out
              exact ⟨q1, q2, HIA.out.skip HF.out (by rw [HP.out]; exact HOU.out)⟩
            | false =>
              refine wpIn_cond_false rfl ?_
              apply wpIn_seq_k
              intro K9 hK9
              by_cases hli : li ≤ 0
              · have HLE0 := Lib.hid hli
                refine G.list_round ?_ ?_ ?_
                · rfl
                · rintro ⟨_, _, h9⟩
                  exact h9
                go_wp2_with fail
                refine wpIn_cond_true rfl ?_
                obtain ⟨a, ha⟩ : ∃ a, a = dacc s pre := ⟨_, rfl⟩
                have HA := Lib.hid ha
                have HND := Lib.hid (show Now g4 g5 w0.heap.size a wA.drew from by rw [ha]; exact HIA.out.now.below (Below.refl _ _).drew)
                have hgood := dacc_good HM.out pre
                rw [← ha] at hgood
                obtain ⟨k1, k3, k4, k5⟩ := drop_good HM.out hgood.1 HPW.out
                have HMA := Lib.hid hgood.1.may
                have HLEN := Lib.hid (show a.2.length ≤ 33554432 by have h1 := hgood.2; omega)
                have HCAN := Lib.hid k5
                have HOK := Lib.hid k1
                obtain ⟨⟨xn, A0, n0, cz, L0, hst, hbx, how2, hLm⟩, hle, hlt5⟩ := HND.out
                have HBD5 := Lib.hid hlt5
                have HMV := Lib.hid (outD_any xn a.1 (p : Int) wA.drew hst.own.rd (may_sz HMA.out))
                obtain ⟨cx, hcx⟩ : ∃ q, q = xn.arr a.1 := ⟨_, rfl⟩
                rw [show xn.val a.1 = .agg cx by rw [hcx]; rfl] at HMV
                have HSX := Lib.hid (show cx.size = 7 by rw [hcx]; rfl)
                have HKD := Lib.hid (show G.Blk wA.drew g4 27 cx by rw [hcx]; exact hst.blk)
                have HK6A := HIA.out.kp.blk HM6.out HX6.out (by decide)
                have HK6D := Lib.hid (show G.Blk wA.drew (g5 + 1) 107 #[.func (.func 74) #[] #[.pointer (some ⟨g4, 0, none⟩), .pointer (some ⟨g5, 0, none⟩)]] from HK6A)
                have HBD := Lib.hid (show w0.heap.size ≤ wA.drew.heap.size from Nat.le_trans HWW.out HKA.out.size)
                have HKWD := Lib.hid (show AddK [g4, g5] w0.heap.size wA wA.drew from AddK.of (Below.refl _ _).drew HBD.out)
                clear ha hgood k1 k3 k4 k5 hst hbx how2 hLm hle hlt5 hcx dA eA HK6A
                refine G.held_round (S := fun V => V.cell? ⟨g5 + 1, 0, none⟩ = some (.func (.func 74) #[] #[.pointer (some ⟨g4, 0, none⟩), .pointer (some ⟨g5, 0, none⟩)])) (by kernel_rfl) (by rfl) ?_ (HK6D.out.cell 0) (fun hHeld => ?_)
                · rintro ⟨_, _, h9⟩
                  exact h9
                refine wpAnyH_take (i := 0) (oi := ⟨some 81, _, _, _, _, _⟩) (v := ?_) rfl (by kernel_rfl) (by kernel_rfl) (by kernel_rfl) (fun _ _ _ h => h) (Or.inl ⟨by rfl, ?_⟩) (by assumption) ?_
                rotate_left
                · (intro w hSw; (try dsimp only at hSw); go_split_ands; go_simp; try with_reducible rfl)
                try simp only [Act.put, List.setIfInBounds_toArray, List.set_cons_zero, List.set_cons_succ]
                refine wpAnyH_take (i := 2) (oi := ⟨some 83, _, _, _, _, _⟩) (v := ?_) rfl (by kernel_rfl) (by kernel_rfl) (by kernel_rfl) (fun _ _ _ h => h) (Or.inl ⟨by rfl, ?_⟩) (by assumption) ?_
                rotate_left
                · (intro w hSw; (try dsimp only at hSw); go_split_ands; go_simp; try with_reducible rfl)
                try simp only [Act.put, List.setIfInBounds_toArray, List.set_cons_zero, List.set_cons_succ]
                refine wpAnyH_ready (rs := [1]) (by kernel_rfl) (by simp) ?_
                refine AllReadyH.cons rfl (fun K hK => ?_) AllReadyH.nil
                refine wpK_load_held (by rfl) 27 (.tmp 4) rfl g4 rfl cx (run_st HKD.out HSX.out) ?_
                refine hK.out _ _ ?_ (fun hHeld => ?_)
                · exact HK6D.out.cell 0
                clear hK K
                try simp only [Act.put, List.setIfInBounds_toArray, List.set_cons_zero, List.set_cons_succ]
                refine wpAnyH_ready (rs := [3]) (by kernel_rfl) (by simp) ?_
                refine AllReadyH.cons rfl (fun K hK => ?_) AllReadyH.nil
                go_simp
                ((with_reducible refine (HMV.out).mono ?_); rintro e7 w7 hp7; obtain ⟨A7, n7, c7, L7, k7, rfl, ho7, hb7, hc7⟩ := hp7; obtain ⟨rfl, hl7⟩ := askP_yes HMA.out HOK.out hc7; have HB7 := Lib.hid hb7; have HADD := Lib.hid (add_asked g4 g5 w0.heap.size a A7 n7 c7 _ L7 _ w7 (HND.out.below hb7) HMA.out ho7 HBD5.out hl7 HCAN.out HLEN.out); have HK67 := Lib.hid (HK6D.out.below hb7 HK6D.out.lt); have HKW7 := Lib.hid (HKWD.out.trans (AddK.of hb7 HBD.out)); clear ho7 hb7 hc7 hl7)
                go_wp2_with fail
                refine hK.out _ _ ?_ (fun hHeld => ?_)
                · exact HK67.out.cell 0
                clear hK K
                try simp only [Act.put, List.setIfInBounds_toArray, List.set_cons_zero, List.set_cons_succ]
                refine wpAnyH_take (i := 4) (oi := ⟨some 85, _, _, _, _, _⟩) (v := ?_) rfl (by kernel_rfl) (by kernel_rfl) (by kernel_rfl) (fun _ _ _ h => h) (Or.inl ⟨by rfl, ?_⟩) (by assumption) ?_
                rotate_left
                · (intro w hSw; (try dsimp only at hSw); go_split_ands; go_simp; try with_reducible rfl)
                try simp only [Act.put, List.setIfInBounds_toArray, List.set_cons_zero, List.set_cons_succ]
                refine wpAnyH_take (i := 5) (oi := ⟨some 86, _, _, _, _, _⟩) (v := ?_) rfl (by kernel_rfl) (by kernel_rfl) (by kernel_rfl) (fun _ _ _ h => h) (Or.inl ⟨by rfl, ?_⟩) (by assumption) ?_
                rotate_left
                · (intro w hSw; (try dsimp only at hSw); go_split_ands; go_simp; try with_reducible rfl)
                try simp only [Act.put, List.setIfInBounds_toArray, List.set_cons_zero, List.set_cons_succ]
                refine wpAnyH_ready (rs := [6]) (by kernel_rfl) (by simp) ?_
                refine AllReadyH.cons rfl (fun K hK => ?_) AllReadyH.nil
                go_simp
                ((with_reducible refine (HADD.out).mono ?_); rintro e8 w8 hp8; obtain ⟨v8, rfl, hn8, hk8⟩ := hp8; have HN8 := Lib.hid hn8; have HK8 := Lib.hid hk8; clear hn8 hk8)
                go_wp2_with fail
                refine hK.out _ _ ?_ (fun hHeld => ?_)
                · exact (HK8.out.blk HK67.out HEX6.out (by decide)).cell 0
                clear hK K
                try simp only [Act.put, List.setIfInBounds_toArray, List.set_cons_zero, List.set_cons_succ]
                refine wpAnyH_done (by kernel_rfl) ?_ _
                obtain ⟨q1, q2⟩ := (HKA.out.trans ((HKW7.out.trans HK8.out).mono (fun q hq => by simp at hq ⊢; omega))).fin (B := wm.heap.size) (Bs := B2) (HI.out.kp.blk HMK.out HXB.out (by decide)) HXB.out
                exact ⟨q1, q2, HIA.out.drop HF.out (by rw [HP.out]; exact HOU.out) (by rw [HP.out, HLI.out]; exact HLE0.out) (by rw [HP.out, ← HA.out]; exact HN8.out) (HKW7.out.trans HK8.out) HG45.out⟩
              · obtain ⟨v, u, h7, h8, h78⟩ := HIA.out.box
                obtain ⟨rfl, rfl⟩ := h78 HF.out
                have hvl := inR_len s pre
                obtain ⟨vn, hvn⟩ : ∃ q, q = (inR s pre).length := ⟨_, rfl⟩
                rw [← hvn] at h7 hvl
                have hv0 : (0 : Int) ≤ vn := by omega
                have hv4 : (vn : Int) < 4 := by omega
                have H7 := Lib.hid h7
                have H8 := Lib.hid h8
                have c7 := h7.cell 0
                have f7 := h7.frozen 0
                have c8 := h8.cell 0
                have f8 := h8.frozen 0
                have HVN := Lib.hid hvn
                clear h7 h8 h78 hvn
                refine G.list_round ?_ ?_ ?_
                · rfl
                · rintro ⟨_, _, h9⟩
                  exact h9
                go_wp2_with fail
                refine wpIn_cond_false rfl ?_
                apply wpIn_seq_k
                intro K10 hK10
                refine G.list_round ?_ ?_ ?_
                · rfl
                · rintro ⟨_, _, h9⟩
                  exact h9
                go_wp2_with fail
                refine G.list_round ?_ ?_ ?_
                · rfl
                · rintro ⟨_, _, h9⟩
                  exact h9
                go_wp2_with fail
                have hq7 := H7.out.put 0 (.int .i64 ((vn : Int) + 1))
                have hq8 : G.Blk (wA.setCell ⟨g5 + 1 + 1, 0, none⟩ (.int .i64 ((vn : Int) + 1))) (g5 + 1 + 1 + 1) 3 _ := blk_set_other H8.out (by omega)
                have hk7 : AddK [g4, g5, g5 + 1 + 1, g5 + 1 + 1 + 1] w0.heap.size wA (wA.setCell ⟨g5 + 1 + 1, 0, none⟩ (.int .i64 ((vn : Int) + 1))) := AddK.cell H7.out (by simp) (by have h1 := HLE.out; omega) _
                have hk8 : AddK [g4, g5, g5 + 1 + 1, g5 + 1 + 1 + 1] w0.heap.size (wA.setCell ⟨g5 + 1 + 1, 0, none⟩ (.int .i64 ((vn : Int) + 1))) ((wA.setCell ⟨g5 + 1 + 1, 0, none⟩ (.int .i64 ((vn : Int) + 1))).setCell ⟨g5 + 1 + 1 + 1, 0, none⟩ (.int .i64 (p : Int))) := AddK.cell hq8 (by simp) (by have h1 := HLE.out; omega) _
                obtain ⟨q1, q2⟩ := (HKA.out.trans (hk7.trans hk8)).fin (B := wm.heap.size) (Bs := B2) (HI.out.kp.blk HMK.out HXB.out (by decide)) HXB.out
                refine ⟨q1, q2, HIA.out.stay HF.out (by rw [HP.out]; exact HOU.out) (by rw [HP.out, HLI.out]; omega) ?_ (hk7.trans hk8) ?_ ?_⟩
                · exact (HIA.out.now.cell _ H7.out ⟨by omega, by omega⟩).cell _ hq8 ⟨by omega, by omega⟩
                · rw [← HVN.out]
                  exact blk_set_other hq7 (by omega)
                · rw [HP.out]
                  exact hq8.put 0 _
          · skip
            refine G.list_round ?_ ?_ ?_
            · rfl
            · rintro ⟨_, _, h9⟩
              exact h9
            go_wp2_with fail
            rw [show (f != 0) = true by simpa using hf0]
            refine wpIn_cond_true rfl ?_
            refine wpIn_exit ?_
            have hne : s.fin ≠ 0 := by rw [HF.out]; exact hf0
            exact ⟨HKA.out.keeps.from _, rfl, hne, HIA.out.ends hne _⟩
  refine (wpIn_wide (n := 3)).1 ?_
  refine G.rangeFunc_box (gf := 93) (lb := #[.pointer (some ⟨Bs, 0, none⟩)]) rfl (enters_of Tryz.func93 (by kernel_rfl) rfl)
    HSEQ.out (fun h k => h.trans k) (KpB.put HBW.out HBK.out.lt) (Below.refl _ _) (fun _ => rfl)
    (fun pre W => LpI [g4, g5] g4 g5 w0.heap.size wl (kacc s pre) W)
    (fun pre k a1 W => a1 = { tmps := #[.agg cs, .pointer (some ⟨g, 0, none⟩), .pointer (some ⟨(g + 1), 0, none⟩), .slice none 0 0, .pointer (some ⟨g4, 0, none⟩), .pointer (some ⟨g5, 0, none⟩), .pointer (some ⟨(g5 + 1), 0, none⟩), .pointer (some ⟨(g5 + 1 + 1), 0, none⟩), .pointer (some ⟨(g5 + 1 + 1 + 1), 0, none⟩), .int .i64 (ringAt s k), undef, undef, undef, undef, undef, undef, .agg cs, x1.val s, .func (.func 74) #[] #[.pointer (some ⟨g4, 0, none⟩), .pointer (some ⟨g5, 0, none⟩)], .agg cs, .func (.func 93) #[] #[.pointer (some ⟨Bs, 0, none⟩)], .int .i64 (ringAt s k), undef, undef, undef, undef, undef, undef, undef, undef, undef, undef, undef, undef, undef, undef, undef, undef, undef, undef, undef, undef, undef, undef, undef, undef, undef, undef, undef, undef, undef, undef, undef, undef, undef, undef, undef, undef, undef, undef, undef, undef, undef, undef, undef, undef, undef, undef, undef, undef, undef, undef, undef, undef, undef, undef, undef, undef, undef, undef, undef, undef, undef, undef, undef, undef, undef, undef, undef, undef, undef, undef, undef, undef, undef, undef, undef, undef, undef, undef, undef, undef, undef, undef, undef, undef, undef], defers := [] } ∧ pre.length < s.players.length ∧ LpI [g4, g5] g4 g5 w0.heap.size wl (kacc s pre) W)
    (fun cd pre W => cd = .exit 0 ∧ s.fin ≠ 0 ∧ LpI [g4, g5] g4 g5 w0.heap.size wl (s, []) W)
    (LpI.own (Nat.le_refl _) HBW.out) ?own1 ?ownx ⟨by rw [kacc_nil]; exact HNL.out, AddK.refl _ _ _⟩ ?assign ?body ?done ?stop
  case own1 =>
    intro k a1 pre W W' row h hg hr
    exact ⟨h.1, h.2.1, (LpI.own (f := kacc s) (Nat.le_refl _) HBW.out) pre W W' row h.2.2 hg hr⟩
  case ownx =>
    intro cd pre W W' row h hg hr
    exact ⟨h.1, h.2.1, (LpI.own (f := fun _ => (s, [])) (Nat.le_refl _) HBW.out) pre W W' row h.2.2 hg hr⟩
  case done =>
    rintro D xs W hD rfl hI hK
    exact key D W hD hK hI
  case stop =>
    rintro D cd pre W hD _ ⟨rfl, hf, hI⟩ hK
    rw [← kacc_end hf (List.range s.players.length)] at hI
    refine wpIn_exit ?_
    exact key D W hD hK hI
  case assign =>
    intro l pre k W K hI hlen hK
    unfold encR
    simp only [List.zip_toArray, List.zip_cons_cons, List.zip_nil_right, List.foldl_toArray, List.foldl_toArray', List.foldl_cons, List.foldl_nil, List.setIfInBounds_toArray, List.set_cons_succ, List.set_cons_zero]
    refine G.list_round ?_ ?_ ?_
    · rfl
    · rintro ⟨_, _, h9⟩
      exact h9
    go_wp2
    exact hK _ _ ((KeepsOthers.refl _).from _) (KpB.refl _ _ _) ⟨rfl, hlen, hI⟩
  case body =>
    as_aux_lemma =>
      rintro l pre k a1 W ⟨rfl, hlen, hi⟩
      have HI := Lib.hid hi
      obtain ⟨p, hp⟩ : ∃ p : Nat, ringAt s k = (p : Int) := ⟨(ringAt s k).toNat, by have := (ringAt_in HM.out k).1; omega⟩
      have hpl : p < s.players.length := by have := (ringAt_in HM.out k).2; omega
      have HP := Lib.hid hp
      rw [hp]
      have HXW := Lib.hid (HI.out.kp.blk HXL.out HEX.out (by decide))
      clear hi hp
      obtain ⟨c0, c1, c2⟩ : W.cell? ⟨g, 0, none⟩ = some (.slice x.pa s.players.length x.pc) ∧ W.cell? ⟨g, 1, none⟩ = some (.slice x.ca s.cards.length x.cc) ∧ W.cell? ⟨g, 2, none⟩ = some (.slice x.za s.zones.length x.zc) := by have h9 := HXW.out; rw [HCS.out] at h9; exact ⟨h9.cell 0, h9.cell 1, h9.cell 2⟩
      have c5 : W.cell? ⟨g, 5, none⟩ = some (.int .i8 s.fin) := by have h9 := HXW.out; rw [HCS.out] at h9; exact h9.cell 5
      have l0 := HXW.out.lt
      obtain ⟨f, hf⟩ : ∃ q, q = s.fin := ⟨_, rfl⟩
      rw [← hf] at c5
      have HF := Lib.hid hf.symm
      clear hf
      refine wpIn_block ?_
      apply wpIn_seq_k
      intro K2 hK2
      by_cases hf0 : f = 0
      · subst hf0
        apply wpIn_seq_k
        intro K3 hK3
        refine G.list_round ?_ ?_ ?_
        · rfl
        · rintro ⟨_, _, h9⟩
          exact h9
        go_wp2_with fail
        refine wpIn_cond_false rfl ?_
        refine wpIn_skip ?_
        refine hK2 _ _ ?_
        have HRW := Lib.hid (show RdSt W x s from HR.out.below (HBL0.out.trans ((HB0L.out.trans HI.out.kp.below).mono HBL0.out.size)))
        have hzl : 4 * p + 2 < s.zones.length := by have := HM.out.zn; omega
        obtain ⟨bz, oz, hza, hcr⟩ := rows_at (i := 4 * p + 2) HRW.out.z hzl
        rw [hza] at c2
        obtain ⟨ra, rk, hrv, hrr⟩ := HRW.out.rows (4 * p + 2) hzl
        rw [hrv] at hcr
        have h256 := may_zone HM.out (4 * p + 2)
        have hbs := World.block_lt_of_cell? _ _ hcr
        obtain ⟨m, hmm⟩ : ∃ m, m = (s.zones.getD (4 * p + 2) []).length := ⟨_, rfl⟩
        rw [← hmm] at hcr h256 hrr
        obtain ⟨zn, hzn⟩ : ∃ m, m = s.zones.length := ⟨_, rfl⟩
        rw [← hzn] at c2 hzl
        have HMM := Lib.hid hmm
        have HRR := Lib.hid hrr
        have HRV := Lib.hid (show x.rows.getD (4 * p + 2) undef = .slice ra (s.zones.getD (4 * p + 2) []).length rk from hrv)
        have HZL := Lib.hid (show 4 * p + 2 < s.zones.length by rw [← hzn]; exact hzl)
        have hzI : 4 * (p : Int) + 2 < zn := by omega
        have hz0 : (0 : Int) ≤ 4 * (p : Int) + 2 := by omega
        have hp16 : (p : Int) < 4 := by have := HM.out.n4; omega
        have hp0 : (0 : Int) ≤ p := by omega
        have hzN : (4 * (p : Int) + 2).toNat = 4 * p + 2 := by omega
        clear hmm hza hrv hrr hzn hpl
        apply wpIn_seq_k
        intro K4 hK4
        refine G.list_round ?_ ?_ ?_
        · rfl
        · rintro ⟨_, _, h9⟩
          exact h9
        go_wp2_with fail
        refine wpIn_block ?_
        have HZN := Lib.hid (show zone s (4 * (p : Int) + 2) = s.zones.getD (4 * p + 2) [] by unfold zone; rw [hzN])
        have HMZ := Lib.hid (show m = (zone s (4 * (p : Int) + 2)).length by rw [HZN.out]; exact HMM.out)
        gi_loopw [33] (fun i wr => ∃ j : Nat, j ≤ m ∧ i = .int .i64 (j : Int) ∧ Now g4 g5 w0.heap.size (kin s pre (p : Int) j) wr ∧ AddK [g4, g5] w0.heap.size W wr) (fun i _ => m - (intOf i).toNat)
        case atStart => exact ⟨0, Nat.zero_le _, rfl, by rw [kin_zero]; exact HI.out.now, AddK.refl _ _ _⟩
        case round =>
          obtain ⟨j, hj, rfl, hnow, hkp⟩ := hrel
          have HNOW := Lib.hid hnow
          have HKP := Lib.hid hkp
          clear hnow hkp
          have hj0 : (0 : Int) ≤ j := by omega
          by_cases hlt : j < m
          · have hjI : (j : Int) < m := by omega
            have HRr := Lib.hid (show RdSt wr x s from HR.out.below (HBL0.out.trans ((HB0L.out.trans (HI.out.kp.below.trans HKP.out.below)).mono HBL0.out.size)))
            have HXr := Lib.hid (HKP.out.blk HXW.out HEX.out (by decide))
            have c1r : wr.cell? ⟨g, 1, none⟩ = some (.slice x.ca s.cards.length x.cc) := by have h9 := HXr.out; rw [HCS.out] at h9; exact h9.cell 1
            have lr := HXr.out.lt
            have hrj := row_at HRr.out HZL.out HRV.out
            rw [← HMM.out] at hrj
            obtain ⟨rb, ro, hra, hrd⟩ := hrj.2 (by omega)
            subst hra
            obtain ⟨c, hc⟩ : ∃ c, c = (s.zones.getD (4 * p + 2) []).getD j 0 := ⟨_, rfl⟩
            have hcj : wr.cell? ⟨rb, ro + j, none⟩ = some (.int .i64 c) := by rw [hc]; exact i64_at hrd (by rw [← HMM.out]; exact hlt)
            have lrb := hrd.1
            have HC := Lib.hid (show (zone s (4 * (p : Int) + 2)).getD j 0 = c by rw [HZN.out, hc])
            have hcw := zone_card HM.out (show c ∈ zone s (4 * (p : Int) + 2) by rw [← HC.out]; exact mem_getD25 (by rw [← HMZ.out]; exact hlt))
            obtain ⟨cn, rfl⟩ : ∃ q : Nat, c = (q : Int) := ⟨c.toNat, by have := hcw.1; omega⟩
            have hcn : cn < s.cards.length := by have := hcw.2; omega
            have HCW := Lib.hid hcw
            obtain ⟨bc, oc, hca, hbc, hrunc⟩ := cd_whole HRr.out.c hcn
            rw [hca] at c1r
            obtain ⟨cl, hcl⟩ : ∃ q, q = s.cards.length := ⟨_, rfl⟩
            rw [← hcl] at c1r hcn
            have hcI : ((cn : Nat) : Int) < cl := by omega
            have hc0 : (0 : Int) ≤ (cn : Int) := by omega
            have h256c : cl ≤ 256 := by rw [hcl]; exact HM.out.m256
            have hcdk := HM.out.cd _ (mem_getD (d := zeroCd) (by rw [← hcl]; exact hcn))
            have how := hcdk.2.1
            obtain ⟨cd, hcd⟩ : ∃ q, q = s.cards.getD cn zeroCd := ⟨_, rfl⟩
            rw [← hcd] at hrunc how
            obtain ⟨cc, hcc⟩ : ∃ q, q = cd.cells.toArray := ⟨_, rfl⟩
            rw [← hcc] at hrunc
            have HRC := Lib.hid hrunc
            have HSC := Lib.hid (show cc.size = 6 by rw [hcc]; rfl)
            have HAC := Lib.hid (show cc.all (·.oneCell') = true by rw [hcc]; simp [Cd.cells, Value.oneCell'])
            have HQ1 := Lib.hid (show cc[1]? = some (.int .i64 cd.owner) by rw [hcc]; rfl)
            have HQ3 := Lib.hid (show cc[3]? = some (.int .i32 cd.health) by rw [hcc]; rfl)
            have HQ4 := Lib.hid (show cc[4]? = some (.int .i32 cd.damage) by rw [hcc]; rfl)
            have HCD := Lib.hid (show cdAt s (cn : Int) = cd by rw [hcd]; unfold cdAt; rw [Int.toNat_natCast])
            have HGR := Lib.hid (show graveOf s (cn : Int) = 4 * cd.owner + 3 by unfold graveOf; rw [HCD.out])
            obtain ⟨ow, how2⟩ : ∃ q, q = cd.owner := ⟨_, rfl⟩
            rw [← how2] at HQ1 HGR how
            have how1 : ow < 4 := by have h1 := how.2; have h2 := HM.out.n4; omega
            have how0 := how.1
            obtain ⟨he, hhe⟩ : ∃ q, q = cd.health := ⟨_, rfl⟩
            obtain ⟨da, hda⟩ : ∃ q, q = cd.damage := ⟨_, rfl⟩
            rw [← hhe] at HQ3
            rw [← hda] at HQ4
            have HSPB := Lib.hid (show spentB s (cn : Int) = decide (he ≤ da) by unfold spentB; rw [HCD.out, hhe, hda])
            clear hrj hrd hc hca hrunc hcdk how hcd hcc how2 hhe hda hcl hcw
            apply wpIn_seq_k
            intro K5 hK5
            refine G.list_round ?_ ?_ ?_
            · rfl
            · rintro ⟨_, _, h9⟩
              exact h9
            go_wp2_with fail
            apply wpIn_seq_k
            intro K6 hK6
            refine wpIn_cond_true rfl ?_
            refine wpIn_skip ?_
            refine hK6 _ _ ?_
            apply wpIn_seq_k
            intro K7 hK7
            refine wpIn_block ?_
            apply wpIn_seq_k
            intro K8 hK8
            refine G.list_round ?_ ?_ ?_
            · rfl
            · rintro ⟨_, _, h9⟩
              exact h9
            go_wp2_with fail
            apply wpIn_seq_k
            intro K9 hK9
            refine G.list_round ?_ ?_ ?_
            · rfl
            · rintro ⟨_, _, h9⟩
              exact h9
            go_wp2_with (first | (refine wpList_load_run (by rfl) 39 _ rfl bc (oc + cn * 6) rfl cc HRC.out ?_) | (refine wpList_store_row rfl 39 _ _ rfl _ cc rfl rfl 39 _ (heap_alloc_new _ _) (by rw [HSC.out]; exact sizeCd25) (by rw [HSC.out]; rfl) HAC.out ?_))
            generalize hwA : World.setRow _ _ _ = wA
            have hqA : Below wr.heap.size wr wA := by rw [← hwA]; exact below_setRow (G.bl_alloc (Below.refl _ _) _) (Nat.le_refl _) _
            have hrA : G.Blk wA wr.heap.size 39 cc := by rw [← hwA]; exact setRow_heap _ _ _ _ _ _ (heap_alloc_new _ _)
            have HQA := Lib.hid hqA
            have HRA := Lib.hid hrA
            have HNA := Lib.hid (HNOW.out.below hqA)
            have HK6 := Lib.hid ((HKP.out.blk (HI.out.kp.blk HL6.out HEX6.out (by decide)) HEX6.out (by decide)).below hqA (HKP.out.blk (HI.out.kp.blk HL6.out HEX6.out (by decide)) HEX6.out (by decide)).lt)
            have HKW := Lib.hid (show AddK [g4, g5] w0.heap.size W wA from HKP.out.trans (AddK.of hqA (Nat.le_trans HBW.out (Nat.le_trans HI.out.kp.size HKP.out.size))))
            generalize hgC : wr.heap.size = gC at hrA HRA ⊢
            have dA := (HRA.out.cell 4).trans HQ4.out
            have eA := (HRA.out.cell 3).trans HQ3.out
            have oA := (HRA.out.cell 1).trans HQ1.out
            have lA := HRA.out.lt
            clear hwA hqA hrA c1r lr hcj lrb
            by_cases hsp : he ≤ da
            · have HSP := Lib.hid (show spentB s (cn : Int) = true by rw [HSPB.out]; simpa using hsp)
              apply wpIn_seq_k
              intro K10 hK10
              refine G.list_round ?_ ?_ ?_
              · rfl
              · rintro ⟨_, _, h9⟩
                exact h9
              go_wp2_with fail
              refine wpIn_cond_true rfl ?_
              obtain ⟨a, ha⟩ : ∃ a, a = kin s pre (p : Int) j := ⟨_, rfl⟩
              have HA := Lib.hid ha
              have HND := Lib.hid (show Now g4 g5 w0.heap.size a wA.drew from by rw [ha]; exact HNA.out.below (Below.refl _ _).drew)
              have hgood := kin_good HM.out pre (p : Int) j
              rw [← ha] at hgood
              obtain ⟨⟨k1, k2⟩, k3, k4, k5⟩ := kill_good HM.out hgood.1 HCW.out
              have HMA := Lib.hid hgood.1.may
              have HLEN := Lib.hid (show a.2.length ≤ 33554432 by have h1 := hgood.2; have h2 := HM.out.n4; omega)
              have HCAN := Lib.hid k5
              have HOK := Lib.hid (And.intro k1 k2)
              have HAK := Lib.hid (show killE s a (cn : Int) = doEs a (moveEv a.1 (cn : Int) (4 * ow + 3) false) by unfold killE; rw [HGR.out])
              rw [HGR.out] at HCAN HOK
              obtain ⟨⟨xn, A0, n0, cz, L0, hst, hbx, how2, hLm⟩, hle, hlt5⟩ := HND.out
              have HBD5 := Lib.hid hlt5
              have HSTD := Lib.hid hst
              have hwr : IntKind.i64.wrap (IntKind.i64.wrap (4 * ow) + 3) = 4 * ow + 3 := by rw [wrap_small (x := 4 * ow) (by omega) (by omega), wrap_small (x := 4 * ow + 3) (by omega) (by omega)]
              have HMV := Lib.hid (show Calls Tryz.prog 77 #[xn.val a.1, .int .i64 (cn : Int), .int .i64 (IntKind.i64.wrap (IntKind.i64.wrap (4 * ow) + 3)), .bool false] wA.drew (AskPost a.1 (Within (cn : Int) a.1.cards.length ∧ Within (4 * ow + 3) a.1.zones.length) (moveEv a.1 (cn : Int) (4 * ow + 3) false) wA.drew) by rw [hwr]; exact moveD_any xn a.1 (cn : Int) (4 * ow + 3) false wA.drew hst.own.rd (may_sz HMA.out))
              obtain ⟨cx, hcx⟩ : ∃ q, q = xn.arr a.1 := ⟨_, rfl⟩
              rw [show xn.val a.1 = .agg cx by rw [hcx]; rfl] at HMV
              have HSX := Lib.hid (show cx.size = 7 by rw [hcx]; rfl)
              have HKD := Lib.hid (show G.Blk wA.drew g4 27 cx by rw [hcx]; exact hst.blk)
              have HK6D := Lib.hid (show G.Blk wA.drew (g5 + 1) 107 #[.func (.func 74) #[] #[.pointer (some ⟨g4, 0, none⟩), .pointer (some ⟨g5, 0, none⟩)]] from HK6.out)
              have oD : wA.drew.cell? ⟨gC, 1, none⟩ = some (.int .i64 ow) := oA
              have HKWD := Lib.hid (show AddK [g4, g5] w0.heap.size W wA.drew from HKW.out.trans (AddK.of (Below.refl _ _).drew (Nat.le_trans HBW.out (Nat.le_trans HI.out.kp.size HKW.out.size))))
              have HBD := Lib.hid (show w0.heap.size ≤ wA.drew.heap.size from Nat.le_trans HBW.out (Nat.le_trans HI.out.kp.size HKWD.out.size))
              clear hwr ha hgood k1 k2 k3 k4 k5 hst hbx how2 hLm hle hlt5 hcx dA eA oA
              refine G.held_round (S := fun V => V.cell? ⟨g5 + 1, 0, none⟩ = some (.func (.func 74) #[] #[.pointer (some ⟨g4, 0, none⟩), .pointer (some ⟨g5, 0, none⟩)])) (by kernel_rfl) (by rfl) ?_ (HK6D.out.cell 0) (fun hHeld => ?_)
              · rintro ⟨_, _, h9⟩
                exact h9
              refine wpAnyH_take (i := 0) (oi := ⟨some 47, _, _, _, _, _⟩) (v := ?_) rfl (by kernel_rfl) (by kernel_rfl) (by kernel_rfl) (fun _ _ _ h => h) (Or.inl ⟨by rfl, ?_⟩) (by assumption) ?_
              rotate_left
              · (intro w hSw; (try dsimp only at hSw); go_split_ands; go_simp; try with_reducible rfl)
              try simp only [Act.put, List.setIfInBounds_toArray, List.set_cons_zero, List.set_cons_succ]
              refine wpAnyH_take (i := 2) (oi := ⟨some 49, _, _, _, _, _⟩) (v := ?_) rfl (by kernel_rfl) (by kernel_rfl) (by kernel_rfl) (fun _ _ _ h => h) (Or.inl ⟨by rfl, ?_⟩) (by assumption) ?_
              rotate_left
              · (intro w hSw; (try dsimp only at hSw); go_split_ands; go_simp; try with_reducible rfl)
              try simp only [Act.put, List.setIfInBounds_toArray, List.set_cons_zero, List.set_cons_succ]
              refine wpAnyH_take (i := 3) (oi := ⟨some 50, _, _, _, _, _⟩) (v := ?_) rfl (by kernel_rfl) (by kernel_rfl) (by kernel_rfl) (fun _ _ _ h => h) (Or.inl ⟨by rfl, ?_⟩) (by assumption) ?_
              rotate_left
              · (intro w hSw; (try dsimp only at hSw); go_split_ands; go_simp; try with_reducible rfl)
              try simp only [Act.put, List.setIfInBounds_toArray, List.set_cons_zero, List.set_cons_succ]
              refine wpAnyH_ready (rs := [1, 4]) (by kernel_rfl) (by simp) ?_
              refine AllReadyH.cons rfl (fun K hK => ?_) ?_
              · refine wpK_load_held (by rfl) 27 (.tmp 4) rfl g4 rfl cx (run_st HKD.out HSX.out) ?_
                refine hK.out _ _ ?_ (fun hHeld => ?_)
                · exact HK6D.out.cell 0
                clear hK K
                try simp only [Act.put, List.setIfInBounds_toArray, List.set_cons_zero, List.set_cons_succ]
                refine wpAnyH_ready (rs := [4]) (by kernel_rfl) (by simp) ?_
                refine AllReadyH.cons rfl (fun K hK => ?_) AllReadyH.nil
                go_simp
                go_wp2_with fail
                refine hK.out _ _ ?_ (fun hHeld => ?_)
                · exact HK6D.out.cell 0
                clear hK K
                try simp only [Act.put, List.setIfInBounds_toArray, List.set_cons_zero, List.set_cons_succ]
                refine wpAnyH_take (i := 5) (oi := ⟨some 52, _, _, _, _, _⟩) (v := ?_) rfl (by kernel_rfl) (by kernel_rfl) (by kernel_rfl) (fun _ _ _ h => h) (Or.inl ⟨by rfl, ?_⟩) (by assumption) ?_
                rotate_left
                · (intro w hSw; (try dsimp only at hSw); go_split_ands; go_simp; try with_reducible rfl)
                try simp only [Act.put, List.setIfInBounds_toArray, List.set_cons_zero, List.set_cons_succ]
                refine wpAnyH_take (i := 6) (oi := ⟨some 53, _, _, _, _, _⟩) (v := ?_) rfl (by kernel_rfl) (by kernel_rfl) (by kernel_rfl) (fun _ _ _ h => h) (Or.inl ⟨by rfl, ?_⟩) (by assumption) ?_
                rotate_left
                · (intro w hSw; (try dsimp only at hSw); go_split_ands; go_simp; try with_reducible rfl)
                try simp only [Act.put, List.setIfInBounds_toArray, List.set_cons_zero, List.set_cons_succ]
                refine wpAnyH_ready (rs := [7]) (by kernel_rfl) (by simp) ?_
                refine AllReadyH.cons rfl (fun K hK => ?_) AllReadyH.nil
                go_simp
                ((with_reducible refine (HMV.out).mono ?_); rintro e7 w7 hp7; obtain ⟨A7, n7, c7, L7, k7, rfl, ho7, hb7, hc7⟩ := hp7; obtain ⟨rfl, hl7⟩ := askP_yes HMA.out HOK.out hc7; have HB7 := Lib.hid hb7; have HADD := Lib.hid (add_asked g4 g5 w0.heap.size a A7 n7 c7 _ L7 _ w7 (HND.out.below hb7) HMA.out ho7 HBD5.out hl7 HCAN.out HLEN.out); have HK67 := Lib.hid (HK6D.out.below hb7 HK6D.out.lt); have HKW7 := Lib.hid (HKWD.out.trans (AddK.of hb7 HBD.out)); clear ho7 hb7 hc7 hl7)
                go_wp2_with fail
                refine hK.out _ _ ?_ (fun hHeld => ?_)
                · exact HK67.out.cell 0
                clear hK K
                try simp only [Act.put, List.setIfInBounds_toArray, List.set_cons_zero, List.set_cons_succ]
                refine wpAnyH_take (i := 8) (oi := ⟨some 55, _, _, _, _, _⟩) (v := ?_) rfl (by kernel_rfl) (by kernel_rfl) (by kernel_rfl) (fun _ _ _ h => h) (Or.inl ⟨by rfl, ?_⟩) (by assumption) ?_
                rotate_left
                · (intro w hSw; (try dsimp only at hSw); go_split_ands; go_simp; try with_reducible rfl)
                try simp only [Act.put, List.setIfInBounds_toArray, List.set_cons_zero, List.set_cons_succ]
                refine wpAnyH_take (i := 9) (oi := ⟨some 56, _, _, _, _, _⟩) (v := ?_) rfl (by kernel_rfl) (by kernel_rfl) (by kernel_rfl) (fun _ _ _ h => h) (Or.inl ⟨by rfl, ?_⟩) (by assumption) ?_
                rotate_left
                · (intro w hSw; (try dsimp only at hSw); go_split_ands; go_simp; try with_reducible rfl)
                try simp only [Act.put, List.setIfInBounds_toArray, List.set_cons_zero, List.set_cons_succ]
                refine wpAnyH_ready (rs := [10]) (by kernel_rfl) (by simp) ?_
                refine AllReadyH.cons rfl (fun K hK => ?_) AllReadyH.nil
                go_simp
                ((with_reducible refine (HADD.out).mono ?_); rintro e8 w8 hp8; obtain ⟨v8, rfl, hn8, hk8⟩ := hp8; have HN8 := Lib.hid hn8; have HK8 := Lib.hid hk8; clear hn8 hk8)
                go_wp2_with fail
                refine hK.out _ _ ?_ (fun hHeld => ?_)
                · exact (HK8.out.blk HK67.out HEX6.out (by decide)).cell 0
                clear hK K
                try simp only [Act.put, List.setIfInBounds_toArray, List.set_cons_zero, List.set_cons_succ]
                refine wpAnyH_done (by kernel_rfl) ?_ _
                refine hK7 _ _ ?_
                refine G.list_round ?_ ?_ ?_
                · rfl
                · rintro ⟨_, _, h9⟩
                  exact h9
                go_wp2_with fail
                go_roundw
                case rel => exact ⟨j + 1, by omega, by go_num, by rw [kin_next (by rw [← HMZ.out]; exact hlt), HC.out, if_pos HSP.out, ← HA.out, HAK.out]; exact HN8.out, HKW7.out.trans HK8.out⟩
                case measure => (simp [intOf]; omega)
              refine AllReadyH.cons rfl (fun K hK => ?_) ?_
              · go_simp
                go_wp2_with fail
                refine hK.out _ _ ?_ (fun hHeld => ?_)
                · exact HK6D.out.cell 0
                clear hK K
                try simp only [Act.put, List.setIfInBounds_toArray, List.set_cons_zero, List.set_cons_succ]
                refine wpAnyH_take (i := 5) (oi := ⟨some 52, _, _, _, _, _⟩) (v := ?_) rfl (by kernel_rfl) (by kernel_rfl) (by kernel_rfl) (fun _ _ _ h => h) (Or.inl ⟨by rfl, ?_⟩) (by assumption) ?_
                rotate_left
                · (intro w hSw; (try dsimp only at hSw); go_split_ands; go_simp; try with_reducible rfl)
                try simp only [Act.put, List.setIfInBounds_toArray, List.set_cons_zero, List.set_cons_succ]
                refine wpAnyH_take (i := 6) (oi := ⟨some 53, _, _, _, _, _⟩) (v := ?_) rfl (by kernel_rfl) (by kernel_rfl) (by kernel_rfl) (fun _ _ _ h => h) (Or.inl ⟨by rfl, ?_⟩) (by assumption) ?_
                rotate_left
                · (intro w hSw; (try dsimp only at hSw); go_split_ands; go_simp; try with_reducible rfl)
                try simp only [Act.put, List.setIfInBounds_toArray, List.set_cons_zero, List.set_cons_succ]
                refine wpAnyH_ready (rs := [1]) (by kernel_rfl) (by simp) ?_
                refine AllReadyH.cons rfl (fun K hK => ?_) AllReadyH.nil
                refine wpK_load_held (by rfl) 27 (.tmp 4) rfl g4 rfl cx (run_st HKD.out HSX.out) ?_
                refine hK.out _ _ ?_ (fun hHeld => ?_)
                · exact HK6D.out.cell 0
                clear hK K
                try simp only [Act.put, List.setIfInBounds_toArray, List.set_cons_zero, List.set_cons_succ]
                refine wpAnyH_ready (rs := [7]) (by kernel_rfl) (by simp) ?_
                refine AllReadyH.cons rfl (fun K hK => ?_) AllReadyH.nil
                go_simp
                ((with_reducible refine (HMV.out).mono ?_); rintro e7 w7 hp7; obtain ⟨A7, n7, c7, L7, k7, rfl, ho7, hb7, hc7⟩ := hp7; obtain ⟨rfl, hl7⟩ := askP_yes HMA.out HOK.out hc7; have HB7 := Lib.hid hb7; have HADD := Lib.hid (add_asked g4 g5 w0.heap.size a A7 n7 c7 _ L7 _ w7 (HND.out.below hb7) HMA.out ho7 HBD5.out hl7 HCAN.out HLEN.out); have HK67 := Lib.hid (HK6D.out.below hb7 HK6D.out.lt); have HKW7 := Lib.hid (HKWD.out.trans (AddK.of hb7 HBD.out)); clear ho7 hb7 hc7 hl7)
                go_wp2_with fail
                refine hK.out _ _ ?_ (fun hHeld => ?_)
                · exact HK67.out.cell 0
                clear hK K
                try simp only [Act.put, List.setIfInBounds_toArray, List.set_cons_zero, List.set_cons_succ]
                refine wpAnyH_take (i := 8) (oi := ⟨some 55, _, _, _, _, _⟩) (v := ?_) rfl (by kernel_rfl) (by kernel_rfl) (by kernel_rfl) (fun _ _ _ h => h) (Or.inl ⟨by rfl, ?_⟩) (by assumption) ?_
                rotate_left
                · (intro w hSw; (try dsimp only at hSw); go_split_ands; go_simp; try with_reducible rfl)
                try simp only [Act.put, List.setIfInBounds_toArray, List.set_cons_zero, List.set_cons_succ]
                refine wpAnyH_take (i := 9) (oi := ⟨some 56, _, _, _, _, _⟩) (v := ?_) rfl (by kernel_rfl) (by kernel_rfl) (by kernel_rfl) (fun _ _ _ h => h) (Or.inl ⟨by rfl, ?_⟩) (by assumption) ?_
                rotate_left
                · (intro w hSw; (try dsimp only at hSw); go_split_ands; go_simp; try with_reducible rfl)
                try simp only [Act.put, List.setIfInBounds_toArray, List.set_cons_zero, List.set_cons_succ]
                refine wpAnyH_ready (rs := [10]) (by kernel_rfl) (by simp) ?_
                refine AllReadyH.cons rfl (fun K hK => ?_) AllReadyH.nil
                go_simp
                ((with_reducible refine (HADD.out).mono ?_); rintro e8 w8 hp8; obtain ⟨v8, rfl, hn8, hk8⟩ := hp8; have HN8 := Lib.hid hn8; have HK8 := Lib.hid hk8; clear hn8 hk8)
                go_wp2_with fail
                refine hK.out _ _ ?_ (fun hHeld => ?_)
                · exact (HK8.out.blk HK67.out HEX6.out (by decide)).cell 0
                clear hK K
                try simp only [Act.put, List.setIfInBounds_toArray, List.set_cons_zero, List.set_cons_succ]
                refine wpAnyH_done (by kernel_rfl) ?_ _
                refine hK7 _ _ ?_
                refine G.list_round ?_ ?_ ?_
                · rfl
                · rintro ⟨_, _, h9⟩
                  exact h9
                go_wp2_with fail
                go_roundw
                case rel => exact ⟨j + 1, by omega, by go_num, by rw [kin_next (by rw [← HMZ.out]; exact hlt), HC.out, if_pos HSP.out, ← HA.out, HAK.out]; exact HN8.out, HKW7.out.trans HK8.out⟩
                case measure => (simp [intOf]; omega)
              exact AllReadyH.nil
            · have HSP := Lib.hid (show ¬ spentB s (cn : Int) = true by rw [HSPB.out]; simpa using hsp)
              apply wpIn_seq_k
              intro K10 hK10
              refine G.list_round ?_ ?_ ?_
              · rfl
              · rintro ⟨_, _, h9⟩
                exact h9
              go_wp2_with fail
              refine wpIn_cond_false rfl ?_
              refine wpIn_skip ?_
              refine hK7 _ _ ?_
              refine G.list_round ?_ ?_ ?_
              · rfl
              · rintro ⟨_, _, h9⟩
                exact h9
              go_wp2_with fail
              go_roundw
              case rel => exact ⟨j + 1, by omega, by go_num, by rw [kin_next (by rw [← HMZ.out]; exact hlt), HC.out, if_neg HSP.out]; exact HNA.out, HKW.out⟩
              case measure => (simp [intOf]; omega)
          · have hjI : ¬ (j : Int) < m := by omega
            obtain rfl : j = m := by omega
            apply wpIn_seq_k
            intro K5 hK5
            refine G.list_round ?_ ?_ ?_
            · rfl
            · rintro ⟨_, _, h9⟩
              exact h9
            go_wp2_with fail
            apply wpIn_seq_k
            intro K6 hK6
            refine wpIn_cond_false rfl ?_
            refine wpIn_exit ?_
            have HBW9 := Lib.hid (HI.out.kp.blk HBK.out HEXB.out (by decide))
            have h8 := HNOW.out
            rw [← HP.out, kin_all HF.out pre k j (by rw [HP.out]; exact HMZ.out)] at h8
            exact ⟨HKP.out.keeps.from _, ⟨HKP.out.below, (HKP.out.blk HBW9.out HEXB.out (by decide)).trans HBW9.out.symm⟩, h8, HI.out.kp.trans HKP.out⟩
      · apply wpIn_seq_k
        intro K3 hK3
        refine G.list_round ?_ ?_ ?_
        · rfl
        · rintro ⟨_, _, h9⟩
          exact h9
        go_wp2_with fail
        rw [show (f != 0) = true by simpa using hf0]
        refine wpIn_cond_true rfl ?_
        refine wpIn_exit ?_
        have hne : s.fin ≠ 0 := by rw [HF.out]; exact hf0
        have h8 := HI.out
        rw [kacc_end hne] at h8
        exact ⟨(KeepsOthers.refl _).from _, rfl, hne, h8⟩
end Go.Proofs.YtmhklnjmeoeanaaGreatDoor.D

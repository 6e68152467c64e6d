/- The walk of SettleStays: what All answers is quiet; it is what the events lead to. Printed by gen_stays.py. -/
import Derived.Test.YtmhklnjmeoeanaaGreatDoorSDue
import Derived.Test.YtmhklnjmeoeanaaGreatDoorDCopyS
import Derived.Test.YtmhklnjmeoeanaaGreatDoorDEqEv
import Derived.Test.YtmhklnjmeoeanaaGreatDoorSWhole
import Derived.Test.YtmhklnjmeoeanaaGreatDoorDCopyEvs
import Derived.Test.YtmhklnjmeoeanaaGreatDoorDBack
import Derived.Test.YtmhklnjmeoeanaaGreatDoorDEqSt
import Derived.Test.YtmhklnjmeoeanaaGreatDoorDEqEvs
namespace Go.Proofs.YtmhklnjmeoeanaaGreatDoor.D
open Go Go.RowKit
set_option linter.unusedVariables false
set_option linter.unusedSimpArgs false
def AllPost (s : St) (w : World) (e : Ending) (w' : World) : Prop :=
  ∃ (x' : SV) (A : Option Addr) (n c : Nat) (L : List (EV × Ev)) (t : St) (k : Int), e = .returned (.tuple #[x'.val t, .slice A n c, .int .i64 k]) ∧ OwnSt w' w.heap.size x' t ∧ OwnEvs w' w.heap.size A n c L ∧ Below w.heap.size w w' ∧
    ((k = 0 ∧ May s ∧ t = (dueP s).1 ∧ L.map Prod.snd = (dueP s).2) ∨ (k = 10 ∧ ¬ May s ∧ t = zeroSt ∧ x' = zeroSV ∧ L = [] ∧ n = 0))
def RoundPost (s : St) (w : World) (e : Ending) (w' : World) : Prop :=
  ∃ (A : Option Addr) (n c : Nat) (L : List (EV × Ev)) (k : Int), e = .returned (.tuple #[.slice A n c, .int .i64 k]) ∧ OwnEvs w' w.heap.size A n c L ∧ Below w.heap.size w w' ∧
    ((k = 0 ∧ May s ∧ L.map Prod.snd = (dueP s).2) ∨ (k = 10 ∧ ¬ May s ∧ L = [] ∧ n = 0))
set_option maxRecDepth 100000 in
set_option maxHeartbeats 4000000 in
theorem round_any (x : SV) (s : St) (w : World) (h : RdSt w x s) (hz : Sz s) : Calls Tryz.prog 14 #[x.val s] w (RoundPost s w) := by
  obtain ⟨fsS, hfsS⟩ := undSt
  have HFS := Lib.hid hfsS
  have HCK := Lib.hid (fun W (hW : Below w.heap.size w W) => check_any x s W (h.below hW) hz)
  have HDU := Lib.hid (fun W (hW : Below w.heap.size w W) (hm : May s) => due_any x s W (h.below hW) hm)
  obtain ⟨cs, hc⟩ : ∃ c, c = x.arr s := ⟨_, rfl⟩
  have HS := Lib.hid (show cs.size = 7 by rw [hc]; rfl)
  have he : x.val s = .agg cs := by rw [hc]; rfl
  rw [he] at HCK HDU ⊢
  clear h hz hc he hfsS
  have h1 : G.Blk (w.alloc (.cells cs 27)) w.heap.size 27 cs := G.Blk.new _ _ _
  have hb0 : Below w.heap.size w (w.alloc (.cells cs 27)) := G.bl_alloc (Below.refl _ _) _
  go_enter Tryz.func14, Tryz.ntmps14
  go_upto_region 1 with (fail)
  obtain ⟨w0, hw0⟩ : ∃ w0, w0 = w.alloc (.cells cs 27) := ⟨_, rfl⟩
  rw [← hw0] at h1 hb0 ⊢
  obtain ⟨g, hg⟩ : ∃ g, g = w.heap.size := ⟨_, rfl⟩
  have HG := Lib.hid hg
  rw [← hg] at h1 ⊢
  have HX0 := Lib.hid h1
  have HB0 := Lib.hid hb0
  clear hw0 hg h1 hb0
  go_upto_region 2 with (first | (refine wpList_load_row rfl 27 _ rfl g rfl _ cs (0, 0) _ HX0.out HFS.out rfl (by rw [HS.out]; exact sizeSt) ?_) | ((with_reducible refine (HCK.out _ HB0.out).mono ?_); rintro e1 w1 hp1; obtain ⟨k1, at1, rfl, hk1, hb1⟩ := hp1; have HB1 := Lib.hid hb1; clear hb1))
  have HBW1 := Lib.hid (G.bl_trans HB0.out HB1.out)
  have HX1 := Lib.hid (HX0.out.below HB1.out HX0.out.lt)
  rcases hk1 with ⟨rfl, hm⟩ | ⟨rfl, hm⟩
  · have HM := Lib.hid hm
    clear hm
    go_wp2_with (first | (refine wpList_load_row rfl 27 _ rfl g rfl _ cs (0, 0) _ HX1.out HFS.out rfl (by rw [HS.out]; exact sizeSt) ?_) | ((with_reducible refine (HDU.out _ HBW1.out HM.out).mono ?_); rintro e2 w2 hp2; obtain ⟨x2, A2, n2, c2, L2, rfl, ho2, hl2, hL2, hb2⟩ := hp2; have HO2 := Lib.hid ho2; have HL2 := Lib.hid hl2; have HE2 := Lib.hid hL2; have HB2 := Lib.hid hb2; clear ho2 hl2 hL2 hb2) | (refine wpList_store_row rfl 27 _ _ rfl _ (x2.arr (dueP s).1) rfl rfl 27 _ (heap_alloc_new _ _) (by kernel_rfl) rfl (arr_one _ _) ?_))
    go_ret2
    refine ⟨A2, n2, c2, L2, 0, rfl, ?_, ?_, .inl ⟨rfl, HM.out, HE2.out⟩⟩
    · exact ((HL2.out.ge HBW1.out.size).below (G.bl_alloc (Below.refl _ _) _)).only2 (only_row (G.Blk.new w2 27 _)) (by decide) (by decide)
    · exact below_setRow (G.bl_alloc (G.bl_trans HBW1.out HB2.out) _) (Nat.le_trans HBW1.out.size HB2.out.size) _
  · have HM := Lib.hid hm
    clear hm
    go_wp2_with fail
    go_ret2
    exact ⟨none, 0, 0, [], 10, rfl, OwnEvs.nil _ _, HBW1.out, .inr ⟨rfl, HM.out, rfl, rfl⟩⟩
/-- What the loop of All keeps. -/
def AllI (s : St) (w0 : World) (g7 : Nat) (l m : Value) (wr : World) : Prop :=
  ∃ (A : Option Addr) (n c : Nat) (L : List (EV × Ev)) (x' : SV), l = .slice A n c ∧ OwnEvs wr w0.heap.size A n c L ∧ L.map Prod.snd = (dueP s).2 ∧ G.Blk wr g7 27 (x'.arr (dueP s).1) ∧ OwnSt wr w0.heap.size x' (dueP s).1 ∧ Below w0.heap.size w0 wr ∧ ∃ mA mn mc, m = .slice mA mn mc ∧ (mn = 0 ∨ (mA = A ∧ mn = n ∧ mc = c))
def lenS : Value → Nat | .slice _ n _ => n | _ => 0
theorem due_len {s : St} (h : May s) : (dueP s).2.length ≤ 33554432 := by
  by_cases h0 : s.fin = 0
  · have h1 := (dacc_good h (List.range s.players.length)).2
    rw [dacc_all h0, List.length_range] at h1
    have h2 := h.n4
    rw [dueP_on h0]
    split
    · rw [show (doEs (dropS s) [endOf (inL s)]).2 = (dropS s).2 ++ [endOf (inL s)] from rfl, List.length_append]
      simp
      omega
    · omega
  · rw [dueP_end h0]
    simp
set_option maxRecDepth 100000 in
set_option maxHeartbeats 8000000 in
theorem all_any (x : SV) (s : St) (w : World) (h : RdSt w x s) (hz : Sz s) : Calls Tryz.prog 8 #[x.val s] w (AllPost s w) := by
  obtain ⟨fsS, hfsS⟩ := undSt
  have HFS := Lib.hid hfsS
  obtain ⟨iE, hiE, hzE0, hzE1, hzE2⟩ := info_parts infoEv
  have HIE := Lib.hid (And.intro hiE (And.intro hzE0 (And.intro hzE1 hzE2)))
  have HCK := Lib.hid (fun W (hW : Below w.heap.size w W) => check_any x s W (h.below hW) hz)
  have HDU := Lib.hid (fun W (hW : Below w.heap.size w W) (hm : May s) => due_any x s W (h.below hW) hm)
  obtain ⟨cs, hc⟩ : ∃ c, c = x.arr s := ⟨_, rfl⟩
  have HS := Lib.hid (show cs.size = 7 by rw [hc]; rfl)
  have he : x.val s = .agg cs := by rw [hc]; rfl
  rw [he] at HCK HDU ⊢
  clear h hz hc he hfsS hiE hzE0 hzE1 hzE2
  have H0 := two_new w 27 cs zeroA
  go_enter Tryz.func8, Tryz.ntmps8
  go_upto_region 1 with (fail)
  obtain ⟨w0, hw0⟩ : ∃ w0, w0 = (w.alloc (.cells cs 27)).alloc (.cells zeroA 27) := ⟨_, rfl⟩
  rw [← hw0] at H0
  unfold zeroA at hw0
  rw [← hw0]
  clear hw0
  obtain ⟨h1, h2, hbl0⟩ := H0
  have HB0 := Lib.hid hbl0
  obtain ⟨g, hg⟩ : ∃ g, g = w.heap.size := ⟨_, rfl⟩
  have HG := Lib.hid hg
  rw [← hg] at h1 h2 ⊢
  have HX0 := Lib.hid h1
  have HR0 := Lib.hid h2
  have hl0 := h2.lt
  clear h1 h2 hbl0 hg
  go_upto_region 2 with (first | (refine wpList_load_row rfl 27 _ rfl g rfl _ cs (0, 0) _ HX0.out HFS.out rfl (by rw [HS.out]; exact sizeSt) ?_) | ((with_reducible refine (HCK.out _ HB0.out).mono ?_); rintro e1 w1 hp1; obtain ⟨k1, at1, rfl, hk1, hb1⟩ := hp1; have HB1 := Lib.hid hb1; clear hb1))
  have HBW1 := Lib.hid (G.bl_trans HB0.out HB1.out)
  have HX1 := Lib.hid (HX0.out.below HB1.out HX0.out.lt)
  have HR1 := Lib.hid (HR0.out.below HB1.out HR0.out.lt)
  rcases hk1 with ⟨rfl, hm⟩ | ⟨rfl, hm⟩
  · have HM := Lib.hid hm
    clear hm
    go_upto_region 5 with (first | (refine wpList_load_row rfl 27 _ rfl g rfl _ cs (0, 0) _ HX1.out HFS.out rfl (by rw [HS.out]; exact sizeSt) ?_) | ((with_reducible refine (HDU.out _ HBW1.out HM.out).mono ?_); rintro e2 w2 hp2; obtain ⟨x2, A2, n2, c2, L2, rfl, ho2, hl2, hL2, hb2⟩ := hp2; have HO2 := Lib.hid ho2; have HL2 := Lib.hid hl2; have HE2 := Lib.hid hL2; have HB2 := Lib.hid hb2; clear ho2 hl2 hL2 hb2) | (refine wpList_store_row rfl 27 _ _ rfl _ (x2.arr (dueP s).1) rfl rfl 27 _ (heap_alloc_new _ _) (by kernel_rfl) rfl (arr_one _ _) ?_))
    have hO : G.Only 27 0 (w2.alloc (.cells zeroA 27)) ((w2.alloc (.cells zeroA 27)).setRow w2.heap.size (x2.arr (dueP s).1)) := only_row (G.Blk.new w2 27 zeroA)
    have HI0 := Lib.hid (show AllI s w0 w2.heap.size (.slice A2 n2 c2) (.slice A2 n2 c2) ((w2.alloc (.cells zeroA 27)).setRow w2.heap.size (x2.arr (dueP s).1)) from
      ⟨A2, n2, c2, L2, x2, rfl, ((HL2.out.ge HB1.out.size).below (G.bl_alloc (Below.refl _ _) _)).only2 hO (by decide) (by decide), HE2.out, setRow_heap _ _ _ _ _ _ (heap_alloc_new _ _), ((HO2.out.ge HB1.out.size).below (G.bl_alloc (Below.refl _ _) _)).only hO (by decide) (by decide) (by decide) (by decide), below_setRow (G.bl_alloc (G.bl_trans HB1.out HB2.out) _) (Nat.le_trans HB1.out.size HB2.out.size) _, A2, n2, c2, rfl, .inr ⟨rfl, rfl, rfl⟩⟩)
    have HBW3 := Lib.hid (show Below w1.heap.size w1 ((w2.alloc (.cells zeroA 27)).setRow w2.heap.size (x2.arr (dueP s).1)) from below_setRow (G.bl_alloc HB2.out _) HB2.out.size _)
    have hgl : g + 1 < w2.heap.size := by have h1 := HR1.out.lt; have h2 := HB2.out.size; omega
    obtain ⟨w3, hw3⟩ : ∃ q, q = (w2.alloc (.cells zeroA 27)).setRow w2.heap.size (x2.arr (dueP s).1) := ⟨_, rfl⟩
    rw [← hw3] at HI0 HBW3
    unfold zeroA at hw3
    rw [← hw3]
    clear hw3 hO
    obtain ⟨g7, hg7⟩ : ∃ q, q = w2.heap.size := ⟨_, rfl⟩
    rw [← hg7] at HI0 hgl ⊢
    have HG7 := Lib.hid (show w0.heap.size ≤ g7 by rw [hg7]; exact Nat.le_trans HB1.out.size HB2.out.size)
    clear hg7
    go_upto_region 6 with (fail)
    go_loopw [8, 9] (fun l m wr => AllI s w0 g7 l m wr) (fun _ m _ => lenS m)
    case atStart => exact HI0.out
    case round =>
      obtain ⟨A, n, c, L, x', rfl, how, hLm, hk7, hos, hbl, mA, mn, mc, rfl, hmn⟩ := hrel
      have HOW := Lib.hid how
      have HLM := Lib.hid hLm
      have HOS := Lib.hid hos
      have HBL := Lib.hid hbl
      obtain ⟨cx, hcx⟩ : ∃ q, q = x'.arr (dueP s).1 := ⟨_, rfl⟩
      have HCX := Lib.hid hcx
      have HSX := Lib.hid (show cx.size = 7 by rw [hcx]; rfl)
      have HAX := Lib.hid (show cx.all (·.oneCell') = true by rw [hcx]; exact arr_one _ _)
      have HK7 := Lib.hid (show G.Blk wr g7 27 cx by rw [hcx]; exact hk7)
      clear how hLm hos hbl hk7
      by_cases hm0 : mn = 0
      · subst hm0
        have HRr := Lib.hid (HR0.out.below HBL.out HR0.out.lt)
        clear hmn hcx
        go_wp2_with (first | (refine wpList_load_row rfl 27 _ rfl g7 rfl _ cx (0, 0) _ HK7.out HFS.out rfl (by rw [HSX.out]; exact sizeSt) ?_) | (refine wpList_store_row rfl 27 _ _ rfl (g + 1) cx rfl rfl 27 _ HRr.out (by rw [HSX.out]; exact sizeSt) (by rw [HSX.out]; rfl) HAX.out ?_))
        refine bodyPost_ret (v := .tuple #[.agg cx, .slice A n c, .int .i64 0]) (st_results3 rfl _ _ (g + 1) _ _ _ rfl rfl rfl (setRow_heap _ _ _ _ _ _ HRr.out) HSX.out) rfl ?_
        refine ⟨x', A, n, c, L, (dueP s).1, 0, by rw [HCX.out]; rfl, ?_, ?_, ?_, .inl ⟨rfl, HM.out, rfl, HLM.out⟩⟩
        · exact (HOS.out.ge HB0.out.size).only (only_row HRr.out) (by decide) (by decide) (by decide) (by decide)
        · exact (HOW.out.ge HB0.out.size).only2 (only_row HRr.out) (by decide) (by decide)
        · exact below_setRow (G.bl_trans HB0.out HBL.out) (by have := HG.out; omega) _
      · obtain ⟨rfl, rfl, rfl⟩ := hmn.resolve_left hm0
        have hpos : (0 : Int) < mn := by omega
        have hlen : mn ≤ 33554432 := by
          have h1 := due_len HM.out
          rw [← HLM.out, List.length_map, ownEvs_len HOW.out] at h1
          exact h1
        have HDR := Lib.hid (due_any x' (dueP s).1 wr HOS.out.rd (due_may HM.out))
        rw [show x'.val (dueP s).1 = .agg cx by rw [hcx]; rfl] at HDR
        have HAG := Lib.hid (due_again HM.out)
        clear hcx hmn
        go_wp2_with (first | (refine wpList_load_row rfl 27 _ rfl g7 rfl _ cx (0, 0) _ HK7.out HFS.out rfl (by rw [HSX.out]; exact sizeSt) ?_) | ((with_reducible refine (HDR.out).mono ?_); rintro e4 w4 hp4; obtain ⟨x4, A4, n4, c4, L4, rfl, ho4, hl4, hL4, hb4⟩ := hp4; rw [HAG.out] at ho4 hL4; obtain rfl : L4 = [] := List.map_eq_nil_iff.1 hL4; obtain rfl : n4 = 0 := (ownEvs_len hl4).symm; have HO4 := Lib.hid ho4; have HB4 := Lib.hid hb4; obtain ⟨cy, hcy⟩ : ∃ q, q = x4.arr (dueP s).1 := ⟨_, rfl⟩; rw [show x4.val (dueP (dueP s).1).1 = .agg cy by rw [HAG.out, hcy]; rfl]; have HCY := Lib.hid hcy; have HSY := Lib.hid (show cy.size = 7 by rw [hcy]; rfl); have HAY := Lib.hid (show cy.all (·.oneCell') = true by rw [hcy]; exact arr_one _ _); have HK74 := Lib.hid (HK7.out.below hb4 HK7.out.lt); have HO74 := Lib.hid (show G.Only 27 0 w4 (w4.setRow g7 cy) from only_row HK74.out); have HOW4 := Lib.hid ((HOW.out.below hb4).only2 HO74.out (by decide) (by decide)); have hz4 : w0.heap.size ≤ (w4.setRow g7 cy).heap.size := Nat.le_trans (Nat.le_trans HBL.out.size hb4.size) HO74.out.below.size; clear ho4 hl4 hL4 hb4 hcy) | (refine wpList_store_row rfl 27 _ _ rfl g7 cy rfl rfl 27 _ HK74.out (by rw [HSY.out]; exact sizeSt) (by rw [HSY.out, HSX.out]) HAY.out ?_) | (at_builtin; refine G.wpList_append_rd rfl (.tmp 33) (.tmp 34) 30 rfl w0.heap.size 37 iE (.agg zeroE) 12 96 Tryz.underlying30 HIE.out.1 HIE.out.2.1 HIE.out.2.2.1 HIE.out.2.2.2 rfl (by decide) _ mn (flatE L) rfl HOW4.out.s A4 0 c4 [] rfl (G.RdS.nil A4) (fun u hu => by cases hu) (by unfold maxLen; omega) (by omega) hz4 ?_; intro v5 w5 hown5 hg5; rw [List.append_nil, Nat.add_zero] at hown5; have HOWN5 := Lib.hid hown5; have HG5 := Lib.hid hg5; clear hown5 hg5))
        go_roundw
        case rel =>
          obtain ⟨A5, c5, rfl⟩ := G.own_shape HOWN5.out
          refine ⟨A5, mn, c5, L, x4, rfl, ⟨HOWN5.out, fun i hi => own_far (HOW4.out.o i hi) HOW4.out.s HG5.out (by decide)⟩, HLM.out, ?_, ?_, ?_, A4, 0, c4, rfl, .inl rfl⟩
          · rw [← HCY.out]
            exact blk_far (setRow_heap _ _ _ _ _ _ HK74.out) HOW4.out.s HG5.out (by decide)
          · exact ((HO4.out.ge HBL.out.size).only HO74.out (by decide) (by decide) (by decide) (by decide)).grownE2 HOW4.out.s HG5.out
          · exact (below_setRow (G.bl_trans HBL.out HB4.out) HG7.out cy).grown HG5.out hz4 fun q hq => (HOW4.out.s.lt q hq).1
        case measure =>
          show 0 < mn
          omega
  · have HM := Lib.hid hm
    clear hm
    go_wp2_with (first | (refine build_to zeroA rfl 27 _ rfl _ (by kernel_rfl) zeroA_b ?_) | (refine wpList_store_row rfl 27 _ _ rfl (g + 1) zeroA rfl rfl 27 _ HR1.out (by kernel_rfl) (by kernel_rfl) (by kernel_rfl) ?_))
    refine bodyPost_ret (v := .tuple #[.agg zeroA, .slice none 0 0, .int .i64 10]) (st_results3 rfl _ _ (g + 1) _ _ _ rfl rfl rfl (setRow_heap _ _ _ _ _ _ HR1.out) rfl) rfl ?_
    exact ⟨zeroSV, none, 0, 0, [], zeroSt, 10, rfl, zero_own _ _, OwnEvs.nil _ _, below_setRow HBW1.out (by have := HG.out; omega) _, .inr ⟨rfl, HM.out, rfl, rfl, rfl, rfl⟩⟩
end Go.Proofs.YtmhklnjmeoeanaaGreatDoor.D
namespace Go.Proofs.YtmhklnjmeoeanaaGreatDoor.D
open Go Go.RowKit
set_option linter.unusedVariables false
set_option linter.unusedSimpArgs false
def allocs (w : World) : List Obj → World
  | [] => w
  | o :: l => allocs (w.alloc o) l
theorem allocs_below : ∀ (l : List Obj) (w : World), Below w.heap.size w (allocs w l)
  | [], w => Below.refl _ _
  | o :: l, w => G.bl_trans (G.bl_alloc (Below.refl _ _) o) (allocs_below l (w.alloc o))
theorem allocs_get : ∀ (l : List Obj) (w : World) (k : Nat), k < l.length → (allocs w l).heap[w.heap.size + k]? = l[k]?
  | o :: l, w, 0, _ => by
    have h1 := heap_alloc_new w o
    have h2 := (allocs_below l (w.alloc o)).block w.heap.size (by simp)
    exact h2.trans h1
  | o :: l, w, k + 1, h => by
    have ih := allocs_get l (w.alloc o) k (by simp at h; omega)
    have e : (w.alloc o).heap.size + k = w.heap.size + (k + 1) := by simp; omega
    rw [e] at ih
    exact ih
def workX (h : Nat) : SV := ⟨some ⟨h, 0, none⟩, 2, some ⟨h + 1, 0, none⟩, 1, some ⟨h + 1 + 1 + 1, 0, none⟩, 8, [.slice none 0 0, .slice none 0 0, .slice (some ⟨h + 1 + 1, 0, none⟩) 1 1, .slice none 0 0, .slice none 0 0, .slice none 0 0, .slice none 0 0, .slice none 0 0]⟩
def workObjs (h : Nat) : List Obj := [.cells #[.int .i32 0, .int .i32 0, .bool false, .int .i32 5, .int .i32 0, .bool false] 44, .cells #[.int .i64 0, .int .i64 0, .int .i32 0, .int .i32 1, .int .i32 1, .int .i32 0] 39, .cells #[.int .i64 0] 3,
  .cells #[.slice none 0 0, .slice none 0 0, .slice (some ⟨h + 1 + 1, 0, none⟩) 1 1, .slice none 0 0, .slice none 0 0, .slice none 0 0, .slice none 0 0, .slice none 0 0] 35, .cells ((workX h).arr worksS) 27]
theorem rd_blk2 {w : World} {g sz n : Nat} {t : TypeId} {cs : Array Value} (h : G.Blk w g t cs) (hn : cs.toList.length = n * sz) : G.RdS w (some ⟨g, 0, none⟩) sz n cs.toList := ⟨hn, fun _ => ⟨g, 0, rfl, h.rdV⟩⟩
theorem work_rd (w : World) : RdSt (allocs w (workObjs w.heap.size)) (workX w.heap.size) worksS := by
  have g0 : G.Blk (allocs w (workObjs w.heap.size)) w.heap.size _ _ := allocs_get (workObjs w.heap.size) w 0 (by simp [workObjs])
  have g1 : G.Blk (allocs w (workObjs w.heap.size)) (w.heap.size + 1) _ _ := allocs_get (workObjs w.heap.size) w 1 (by simp [workObjs])
  have g2 : G.Blk (allocs w (workObjs w.heap.size)) (w.heap.size + 2) _ _ := allocs_get (workObjs w.heap.size) w 2 (by simp [workObjs])
  have g3 : G.Blk (allocs w (workObjs w.heap.size)) (w.heap.size + 3) _ _ := allocs_get (workObjs w.heap.size) w 3 (by simp [workObjs])
  have nil : ∀ W : World, RdRow W (.slice none 0 0) [] := fun W => ⟨none, 0, rfl, G.RdS.nil _⟩
  refine ⟨rd_blk2 (sz := 3) (n := 2) g0 rfl, rd_blk2 (sz := 6) (n := 1) g1 rfl, rd_blk2 (sz := 1) (n := 8) g3 rfl, fun i hi => ?_⟩
  have hi8 : i < 8 := hi
  match i, hi8 with
  | 0, _ => exact nil _
  | 1, _ => exact nil _
  | 2, _ => exact ⟨some ⟨w.heap.size + 2, 0, none⟩, 1, rfl, rd_blk2 (sz := 1) (n := 1) g2 rfl⟩
  | 3, _ => exact nil _
  | 4, _ => exact nil _
  | 5, _ => exact nil _
  | 6, _ => exact nil _
  | 7, _ => exact nil _
set_option maxRecDepth 100000 in
set_option maxHeartbeats 4000000 in
theorem works_any (w : World) : Calls Tryz.prog 6 #[] w (BoolPost true w) := by
  obtain ⟨fsS, hfsS⟩ := undSt
  have HFS := Lib.hid hfsS
  have HAL := Lib.hid (fun (y : SV) (W : World) (hW : RdSt W y worksS) => all_any y worksS W hW (may_sz works_may))
  clear hfsS
  go_enter Tryz.func6, Tryz.ntmps6
  go_upto_region 2 with (fail)
  have HRD := Lib.hid (work_rd w)
  have HBL := Lib.hid (allocs_below (workObjs w.heap.size) w)
  have hk := allocs_get (workObjs w.heap.size) w 4 (by simp [workObjs])
  change G.Blk (allocs w (workObjs w.heap.size)) (w.heap.size + 1 + 1 + 1 + 1) 27 ((workX w.heap.size).arr worksS) at hk
  have HK := Lib.hid hk
  change Code.wp _ _ _ _ (allocs w (workObjs w.heap.size))
  obtain ⟨w1, hw1⟩ : ∃ q, q = allocs w (workObjs w.heap.size) := ⟨_, rfl⟩
  rw [← hw1] at HRD HBL HK ⊢
  obtain ⟨g, hg⟩ : ∃ q, q = w.heap.size + 1 + 1 + 1 + 1 := ⟨_, rfl⟩
  rw [← hg] at HK ⊢
  obtain ⟨y, hy⟩ : ∃ y, y = workX w.heap.size := ⟨_, rfl⟩
  rw [← hy] at HRD HK
  have HALL := Lib.hid (HAL.out y w1 HRD.out)
  obtain ⟨cs, hcs⟩ : ∃ c, c = y.arr worksS := ⟨_, rfl⟩
  have HS := Lib.hid (show cs.size = 7 by rw [hcs]; rfl)
  rw [← hcs] at HK
  rw [show y.val worksS = .agg cs by rw [hcs]; rfl] at HALL
  clear hw1 hg hy hcs hk
  go_upto_region 3 with (first | (refine wpList_load_row rfl 27 _ rfl g rfl _ cs (0, 0) _ HK.out HFS.out rfl (by rw [HS.out]; exact sizeSt) ?_) | ((with_reducible refine (HALL.out).mono ?_); rintro e2 w2 hp2; obtain ⟨x2, A2, n2, c2, L2, t2, k2, rfl, ho2, hl2, hb2, hc2⟩ := hp2; have HO2 := Lib.hid ho2; have HL2 := Lib.hid hl2; have HB2 := Lib.hid hb2; have HC2 := Lib.hid hc2; clear ho2 hl2 hb2 hc2; obtain ⟨cy, hcy⟩ : ∃ q, q = x2.arr t2 := ⟨_, rfl⟩; rw [show x2.val t2 = .agg cy by rw [hcy]; rfl]; have HCY := Lib.hid hcy; have HSY := Lib.hid (show cy.size = 7 by rw [hcy]; rfl); have HAY := Lib.hid (show cy.all (·.oneCell') = true by rw [hcy]; exact arr_one _ _); clear hcy) | (refine wpList_store_row rfl 27 _ _ rfl _ cy rfl rfl 27 _ (heap_alloc_new _ _) (by rw [HSY.out]; exact sizeSt) (by rw [HSY.out]; rfl) HAY.out ?_))
  obtain ⟨rfl, ht2, hL2⟩ : k2 = 0 ∧ t2 = (dueP worksS).1 ∧ L2.map Prod.snd = (dueP worksS).2 := by
    rcases HC2.out with ⟨h1, _, h2, h3⟩ | ⟨_, h, _⟩
    · exact ⟨h1, h2, h3⟩
    · exact absurd works_may h
  rw [works_due] at ht2 hL2
  have hn2 : n2 = 3 := by
    have h1 := congrArg List.length hL2
    rw [List.length_map, ownEvs_len HL2.out] at h1
    exact h1
  subst hn2
  generalize hwA : World.setRow _ _ _ = wA
  have hqA : Below w2.heap.size w2 wA := by rw [← hwA]; exact below_setRow (G.bl_alloc (Below.refl _ _) _) (Nat.le_refl _) _
  have hrA : G.Blk wA w2.heap.size 27 cy := by rw [← hwA]; exact setRow_heap _ _ _ _ _ _ (heap_alloc_new _ _)
  generalize hgC : w2.heap.size = gC at hrA ⊢
  have HBA := Lib.hid (G.bl_trans HBL.out (G.bl_trans HB2.out hqA))
  have hrs := HO2.out.rd.below hqA
  obtain ⟨bz, oz, hza, hcr⟩ := rows_at (i := 3) hrs.z (by rw [ht2]; decide)
  obtain ⟨ra, rk, hrv, hrr⟩ := hrs.rows 3 (by rw [ht2]; decide)
  rw [hrv] at hcr
  have h2 := hrA.cell 2
  have h5 := hrA.cell 5
  have h6 := hrA.cell 6
  rw [HCY.out] at h2 h5 h6
  change wA.cell? ⟨gC, 2, none⟩ = some (.slice x2.za t2.zones.length x2.zc) at h2
  change wA.cell? ⟨gC, 5, none⟩ = some (.int .i8 t2.fin) at h5
  change wA.cell? ⟨gC, 6, none⟩ = some (.int .i64 t2.winner) at h6
  rw [show t2.zones.length = 8 by rw [ht2]; rfl, hza] at h2
  rw [show t2.fin = 1 by rw [ht2]] at h5
  rw [show t2.winner = 1 by rw [ht2]] at h6
  rw [show (t2.zones.getD 3 []).length = 1 by rw [ht2]; rfl] at hcr
  obtain ⟨be, oe, hA, hev⟩ := (HL2.out.rd.below hqA).s.2 (by omega)
  subst hA
  have he0 := ev_at hev (k := 0) (by rw [ownEvs_len HL2.out]; omega) 0 (by omega)
  have he1 : wA.cell? ⟨be, oe, none⟩ = some (.int .i8 1) := by
    have h7 : (L2.getD 0 zeroP).2.kind = 1 := by
      rw [← getD_snd, hL2]
      rfl
    have h8 : (cellsE (L2.getD 0 zeroP)).getD 0 undef = .int .i8 (L2.getD 0 zeroP).2.kind := rfl
    rw [h8, h7] at he0
    simpa using he0
  have l1 := hrA.lt
  have l2 := hev.1
  have l3 := World.block_lt_of_cell? _ _ hcr
  clear hwA hqA hrA hrs hza hrv hrr he0 hev hgC ht2 hL2
  go_wp2_with fail
  go_ret
  exact ⟨rfl, HBA.out⟩
end Go.Proofs.YtmhklnjmeoeanaaGreatDoor.D
namespace Go.Proofs.YtmhklnjmeoeanaaGreatDoor.D
open Go Go.RowKit
set_option linter.unusedVariables false
set_option linter.unusedSimpArgs false
def inQ (s : St) (k : Nat) : Nat := ((List.range k).filter fun p : Nat => !(plAt s p).out).length
theorem inQ_next (s : St) (k : Nat) : inQ s (k + 1) = if (plAt s (k : Int)).out = true then inQ s k else inQ s k + 1 := by
  unfold inQ
  rw [List.range_succ, List.filter_append]
  cases h : (plAt s (k : Int)).out <;> simp [h]
theorem inQ_le (s : St) (k : Nat) : inQ s k ≤ k := by
  unfold inQ
  exact Nat.le_trans (List.length_filter_le _ _) (by simp)
theorem ok_next {s : St} {k : Nat} (h : (List.range k).all (okAt s) = true) (hk : okAt s k = true) : (List.range (k + 1)).all (okAt s) = true := by
  rw [List.range_succ, List.all_append, h]
  simp [hk]
theorem quiet_no {s : St} {k : Nat} (h0 : s.fin = 0) (hk : k < s.players.length) (h : okAt s k = false) : quietB s = false := by
  unfold quietB
  have h1 : (List.range s.players.length).all (okAt s) = false := by
    rw [List.all_eq_false]
    exact ⟨k, List.mem_range.2 hk, by rw [h]; decide⟩
  rw [h1, h0]
  rfl
theorem okAt_out {s : St} {k : Nat} (h : (plAt s (k : Int)).out = false) (hl : (plAt s (k : Int)).life ≤ 0) : okAt s k = false := by
  unfold okAt goneB
  rw [h]
  simp [hl]
theorem okAt_spent {s : St} {k : Nat} {c : Int} (hc : c ∈ zone s (4 * (k : Int) + 2)) (hs : spentB s c = true) : okAt s k = false := by
  unfold okAt
  have h1 : ((zone s (4 * (k : Int) + 2)).all fun c => !spentB s c) = false := by
    rw [List.all_eq_false]
    exact ⟨c, hc, by rw [hs]; decide⟩
  rw [h1, Bool.and_false]
theorem okAt_yes {s : St} {k : Nat} (h : (plAt s (k : Int)).out = true ∨ ¬ (plAt s (k : Int)).life ≤ 0) (hz : ((zone s (4 * (k : Int) + 2)).all fun c => !spentB s c) = true) : okAt s k = true := by
  unfold okAt goneB
  rw [hz]
  rcases h with h | h <;> simp [h]
set_option maxRecDepth 100000 in
set_option maxHeartbeats 8000000 in
theorem quiet_any (x : SV) (s : St) (w : World) (h : RdSt w x s) (hm : May s) : Calls Tryz.prog 26 #[x.val s] w (BoolPost (quietB s) w) := by
  have HM := Lib.hid hm
  have HR := Lib.hid h
  obtain ⟨cs, hc⟩ : ∃ c, c = x.arr s := ⟨_, rfl⟩
  rw [show x.val s = .agg cs by rw [hc]; rfl]
  have HCS := Lib.hid hc
  have h1 : G.Blk (w.alloc (.cells cs 27)) w.heap.size 27 cs := G.Blk.new _ _ _
  have hb0 : Below w.heap.size w (w.alloc (.cells cs 27)) := G.bl_alloc (Below.refl _ _) _
  clear h hm hc
  go_enter Tryz.func26, Tryz.ntmps26
  go_upto_region 1 with (fail)
  obtain ⟨w0, hw0⟩ : ∃ w0, w0 = w.alloc (.cells cs 27) := ⟨_, rfl⟩
  rw [← hw0] at h1 hb0 ⊢
  obtain ⟨g, hg⟩ : ∃ g, g = w.heap.size := ⟨_, rfl⟩
  rw [← hg] at h1 ⊢
  have HX0 := Lib.hid h1
  have HB0 := Lib.hid hb0
  have HR0 := Lib.hid (show RdSt w0 x s from HR.out.below hb0)
  clear hw0 hg h1 hb0
  obtain ⟨f, hf⟩ : ∃ q, q = s.fin := ⟨_, rfl⟩
  have c5 : w0.cell? ⟨g, 5, none⟩ = some (.int .i8 f) := by have h9 := HX0.out; rw [HCS.out] at h9; rw [hf]; exact h9.cell 5
  have l0 := HX0.out.lt
  have HF := Lib.hid hf.symm
  clear hf
  by_cases hf0 : f = 0
  · subst hf0
    obtain ⟨n, hn⟩ : ∃ q, q = s.players.length := ⟨_, rfl⟩
    have HN := Lib.hid hn
    have hn4 : n ≤ 4 := by rw [hn]; exact HM.out.n4
    have hn40 : (n : Int) ≤ 4 := by omega
    clear hn
    go_upto_region 5 with (fail)
    go_loopw [3, 4] (fun a i wr => ∃ k : Nat, k ≤ n ∧ i = .int .i64 (k : Int) ∧ a = .int .i64 (inQ s k : Nat) ∧ (List.range k).all (okAt s) = true ∧ Below w0.heap.size w0 wr) (fun _ i _ => n - (intOf i).toNat)
    case atStart => exact ⟨0, Nat.zero_le _, rfl, rfl, rfl, Below.refl _ _⟩
    case round =>
      obtain ⟨k, hk, rfl, rfl, hall, hbl⟩ := hrel
      have HALL := Lib.hid hall
      have HBL := Lib.hid hbl
      have HXr := Lib.hid (HX0.out.below hbl HX0.out.lt)
      have HRr := Lib.hid (HR0.out.below hbl)
      have hq := inQ_le s k
      obtain ⟨q, hqq⟩ : ∃ q, q = inQ s k := ⟨_, rfl⟩
      have HQ := Lib.hid hqq
      rw [← hqq] at hq ⊢
      have hq0 : (0 : Int) ≤ q := by omega
      have hq4 : (q : Int) ≤ 4 := by omega
      have hk0 : (0 : Int) ≤ k := by omega
      have c0 : wr.cell? ⟨g, 0, none⟩ = some (.slice x.pa n x.pc) := by have h9 := HXr.out; rw [HCS.out] at h9; rw [HN.out]; exact h9.cell 0
      have lr := HXr.out.lt
      clear hall hbl hqq c5 l0
      by_cases hlt : k < n
      · have hkI : (k : Int) < n := by omega
        have hkp : k < s.players.length := by rw [← HN.out]; exact hlt
        obtain ⟨bp, op, hpa, hpv⟩ := HRr.out.p.2 (by omega)
        obtain ⟨p0, p1, p2⟩ := pl_at hpv hkp rfl
        have lp := hpv.1
        rw [hpa] at c0
        have hzl : 4 * k + 2 < s.zones.length := by have := HM.out.zn; omega
        have c2 : wr.cell? ⟨g, 2, none⟩ = some (.slice x.za s.zones.length x.zc) := by have h9 := HXr.out; rw [HCS.out] at h9; exact h9.cell 2
        obtain ⟨bz, oz, hza, hcr⟩ := rows_at (i := 4 * k + 2) HRr.out.z hzl
        rw [hza] at c2
        obtain ⟨ra, rk, hrv, hrr⟩ := HRr.out.rows (4 * k + 2) hzl
        rw [hrv] at hcr
        have lz := World.block_lt_of_cell? _ _ hcr
        obtain ⟨m, hmm⟩ : ∃ m, m = (s.zones.getD (4 * k + 2) []).length := ⟨_, rfl⟩
        have h256 := may_zone HM.out (4 * k + 2)
        have HRV := Lib.hid hrv
        have HZL := Lib.hid hzl
        have hzN : (4 * (k : Int) + 2).toNat = 4 * k + 2 := by omega
        have HZN := Lib.hid (show zone s (4 * (k : Int) + 2) = s.zones.getD (4 * k + 2) [] by unfold zone; rw [hzN])
        have HMZ := Lib.hid (show m = (zone s (4 * (k : Int) + 2)).length by rw [HZN.out]; exact hmm)
        rw [← hmm] at hcr h256
        obtain ⟨zn, hzn⟩ : ∃ m, m = s.zones.length := ⟨_, rfl⟩
        rw [← hzn] at c2 hzl
        have hzI : 4 * (k : Int) + 2 < zn := by omega
        have hz0 : (0 : Int) ≤ 4 * (k : Int) + 2 := by omega
        have hk4 : (k : Int) < 4 := by omega
        obtain ⟨ou, hou⟩ : ∃ q, q = (s.players.getD k zeroPl).out := ⟨_, rfl⟩
        obtain ⟨li, hli⟩ : ∃ q, q = (s.players.getD k zeroPl).life := ⟨_, rfl⟩
        rw [← hou] at p2
        rw [← hli] at p0
        have HOU := Lib.hid (show (plAt s (k : Int)).out = ou by unfold plAt; rw [Int.toNat_natCast, hou])
        have HLI := Lib.hid (show (plAt s (k : Int)).life = li by unfold plAt; rw [Int.toNat_natCast, hli])
        clear hpa hpv p1 hza hrv hrr hmm hzn hou hli hkp
        cases ou with
        | true =>
          as_aux_lemma =>
            go_upto_region 13 with (fail)
            go_loopw [6] (fun i wi => ∃ j : Nat, j ≤ m ∧ i = .int .i64 (j : Int) ∧ ((zone s (4 * (k : Int) + 2)).take j).all (fun c => !spentB s c) = true ∧ Below w0.heap.size w0 wi) (fun i _ => m - (intOf i).toNat)
            case atStart => exact ⟨0, Nat.zero_le _, rfl, rfl, HBL.out⟩
            case round =>
              obtain ⟨j, hj, rfl, hzj, hbi⟩ := hrel
              have HZJ := Lib.hid hzj
              have HBI := Lib.hid hbi
              have HXi := Lib.hid (HX0.out.below hbi HX0.out.lt)
              have HRi := Lib.hid (HR0.out.below hbi)
              have hj0 : (0 : Int) ≤ j := by omega
              clear hzj hbi
              by_cases hltj : j < m
              · have hjI : (j : Int) < m := by omega
                have c1 : wr.cell? ⟨g, 1, none⟩ = some (.slice x.ca s.cards.length x.cc) := by have h9 := HXi.out; rw [HCS.out] at h9; exact h9.cell 1
                have lx := HXi.out.lt
                have hrj := row_at HRi.out HZL.out HRV.out
                rw [← HZN.out, ← HMZ.out] at hrj
                obtain ⟨rb, ro, hra, hrd⟩ := hrj.2 (by omega)
                subst hra
                obtain ⟨c, hc⟩ : ∃ c, c = (zone s (4 * (k : Int) + 2)).getD j 0 := ⟨_, rfl⟩
                have hcj : wr.cell? ⟨rb, ro + j, none⟩ = some (.int .i64 c) := by rw [hc]; exact i64_at hrd (by rw [← HMZ.out]; exact hltj)
                have lrb := hrd.1
                have hcz : c ∈ zone s (4 * (k : Int) + 2) := by rw [hc]; exact mem_getD25 (by rw [← HMZ.out]; exact hltj)
                have hcw := zone_card HM.out hcz
                obtain ⟨cn, rfl⟩ : ∃ q : Nat, c = (q : Int) := ⟨c.toNat, by have := hcw.1; omega⟩
                have HCZ := Lib.hid hcz
                have hcn : cn < s.cards.length := by have := hcw.2; omega
                obtain ⟨bc, oc, hca, hcv⟩ := HRi.out.c.2 (by omega)
                obtain ⟨q0, q1, q2, q3, q4, q5⟩ := cd_at hcv hcn rfl
                have lc := hcv.1
                rw [hca] at c1
                obtain ⟨cl, hcl⟩ : ∃ q, q = s.cards.length := ⟨_, rfl⟩
                rw [← hcl] at c1 hcn
                have hcI : ((cn : Nat) : Int) < cl := by omega
                have hc0 : (0 : Int) ≤ (cn : Int) := by omega
                have h256c : cl ≤ 256 := by rw [hcl]; exact HM.out.m256
                obtain ⟨he, hhe⟩ : ∃ q, q = (s.cards.getD cn zeroCd).health := ⟨_, rfl⟩
                obtain ⟨da, hda⟩ : ∃ q, q = (s.cards.getD cn zeroCd).damage := ⟨_, rfl⟩
                rw [← hhe] at q3
                rw [← hda] at q4
                have HSPB := Lib.hid (show spentB s (cn : Int) = decide (he ≤ da) by unfold spentB cdAt; rw [Int.toNat_natCast, hhe, hda])
                have HCJ := Lib.hid hc
                clear hrj hrd hc hcz hcw hca hcv hcl hhe hda q0 q1 q2 q5
                by_cases hsp : he ≤ da
                · have HB := Lib.hid (show false = quietB s from (quiet_no HF.out (by rw [← HN.out]; exact hlt) (okAt_spent HCZ.out (by rw [HSPB.out]; simpa using hsp))).symm)
                  go_upto_region 15 with (fail)
                  go_region
                  go_wp2_with fail
                  go_ret
                  exact ⟨ret_bool HB.out, HB0.out.trans ((HBI.out.drew).mono HB0.out.size)⟩
                · have HNS := Lib.hid (show ((zone s (4 * (k : Int) + 2)).take (j + 1)).all (fun c => !spentB s c) = true by
                    have e : (zone s (4 * (k : Int) + 2))[j]'(by rw [← HMZ.out]; exact hltj) = (cn : Int) := by
                      rw [HCJ.out, List.getD_eq_getElem?_getD, List.getElem?_eq_getElem (by rw [← HMZ.out]; exact hltj)]
                      rfl
                    rw [← List.take_append_getElem (by rw [← HMZ.out]; exact hltj), List.all_append, HZJ.out, e]
                    simp [HSPB.out, hsp])
                  go_upto_region 15 with (fail)
                  go_region
                  go_wp2_with fail
                  go_roundw
                  case rel => exact ⟨j + 1, by omega, by go_num, HNS.out, HBI.out.drew⟩
                  case measure => (simp [intOf]; omega)
              · have hjI : ¬ (j : Int) < m := by omega
                obtain rfl : j = m := by omega
                have HALL2 := Lib.hid (show (List.range (k + 1)).all (okAt s) = true from ok_next HALL.out (okAt_yes (.inl HOU.out) (by have h9 := HZJ.out; rwa [List.take_of_length_le (by rw [HMZ.out]; exact Nat.le_refl _)] at h9)))
                go_wp2_with fail
                go_roundw
                case rel => exact ⟨k + 1, by omega, by go_num, by rw [inQ_next, if_pos HOU.out, HQ.out], HALL2.out, HBI.out⟩
                case measure => (simp [intOf]; omega)
        | false =>
          by_cases hl0 : li ≤ 0
          · have HB := Lib.hid (show false = quietB s from (quiet_no HF.out (by rw [← HN.out]; exact hlt) (okAt_out HOU.out (by rw [HLI.out]; exact hl0))).symm)
            go_wp2_with fail
            go_ret
            exact ⟨ret_bool HB.out, HB0.out.trans (HBL.out.mono HB0.out.size)⟩
          · as_aux_lemma =>
              have HL0 := Lib.hid hl0
              go_upto_region 13 with (fail)
              go_loopw [6] (fun i wi => ∃ j : Nat, j ≤ m ∧ i = .int .i64 (j : Int) ∧ ((zone s (4 * (k : Int) + 2)).take j).all (fun c => !spentB s c) = true ∧ Below w0.heap.size w0 wi) (fun i _ => m - (intOf i).toNat)
              case atStart => exact ⟨0, Nat.zero_le _, rfl, rfl, HBL.out⟩
              case round =>
                obtain ⟨j, hj, rfl, hzj, hbi⟩ := hrel
                have HZJ := Lib.hid hzj
                have HBI := Lib.hid hbi
                have HXi := Lib.hid (HX0.out.below hbi HX0.out.lt)
                have HRi := Lib.hid (HR0.out.below hbi)
                have hj0 : (0 : Int) ≤ j := by omega
                clear hzj hbi
                by_cases hltj : j < m
                · have hjI : (j : Int) < m := by omega
                  have c1 : wr.cell? ⟨g, 1, none⟩ = some (.slice x.ca s.cards.length x.cc) := by have h9 := HXi.out; rw [HCS.out] at h9; exact h9.cell 1
                  have lx := HXi.out.lt
                  have hrj := row_at HRi.out HZL.out HRV.out
                  rw [← HZN.out, ← HMZ.out] at hrj
                  obtain ⟨rb, ro, hra, hrd⟩ := hrj.2 (by omega)
                  subst hra
                  obtain ⟨c, hc⟩ : ∃ c, c = (zone s (4 * (k : Int) + 2)).getD j 0 := ⟨_, rfl⟩
                  have hcj : wr.cell? ⟨rb, ro + j, none⟩ = some (.int .i64 c) := by rw [hc]; exact i64_at hrd (by rw [← HMZ.out]; exact hltj)
                  have lrb := hrd.1
                  have hcz : c ∈ zone s (4 * (k : Int) + 2) := by rw [hc]; exact mem_getD25 (by rw [← HMZ.out]; exact hltj)
                  have hcw := zone_card HM.out hcz
                  obtain ⟨cn, rfl⟩ : ∃ q : Nat, c = (q : Int) := ⟨c.toNat, by have := hcw.1; omega⟩
                  have HCZ := Lib.hid hcz
                  have hcn : cn < s.cards.length := by have := hcw.2; omega
                  obtain ⟨bc, oc, hca, hcv⟩ := HRi.out.c.2 (by omega)
                  obtain ⟨q0, q1, q2, q3, q4, q5⟩ := cd_at hcv hcn rfl
                  have lc := hcv.1
                  rw [hca] at c1
                  obtain ⟨cl, hcl⟩ : ∃ q, q = s.cards.length := ⟨_, rfl⟩
                  rw [← hcl] at c1 hcn
                  have hcI : ((cn : Nat) : Int) < cl := by omega
                  have hc0 : (0 : Int) ≤ (cn : Int) := by omega
                  have h256c : cl ≤ 256 := by rw [hcl]; exact HM.out.m256
                  obtain ⟨he, hhe⟩ : ∃ q, q = (s.cards.getD cn zeroCd).health := ⟨_, rfl⟩
                  obtain ⟨da, hda⟩ : ∃ q, q = (s.cards.getD cn zeroCd).damage := ⟨_, rfl⟩
                  rw [← hhe] at q3
                  rw [← hda] at q4
                  have HSPB := Lib.hid (show spentB s (cn : Int) = decide (he ≤ da) by unfold spentB cdAt; rw [Int.toNat_natCast, hhe, hda])
                  have HCJ := Lib.hid hc
                  clear hrj hrd hc hcz hcw hca hcv hcl hhe hda q0 q1 q2 q5
                  by_cases hsp : he ≤ da
                  · have HB := Lib.hid (show false = quietB s from (quiet_no HF.out (by rw [← HN.out]; exact hlt) (okAt_spent HCZ.out (by rw [HSPB.out]; simpa using hsp))).symm)
                    go_upto_region 15 with (fail)
                    go_region
                    go_wp2_with fail
                    go_ret
                    exact ⟨ret_bool HB.out, HB0.out.trans ((HBI.out.drew).mono HB0.out.size)⟩
                  · have HNS := Lib.hid (show ((zone s (4 * (k : Int) + 2)).take (j + 1)).all (fun c => !spentB s c) = true by
                      have e : (zone s (4 * (k : Int) + 2))[j]'(by rw [← HMZ.out]; exact hltj) = (cn : Int) := by
                        rw [HCJ.out, List.getD_eq_getElem?_getD, List.getElem?_eq_getElem (by rw [← HMZ.out]; exact hltj)]
                        rfl
                      rw [← List.take_append_getElem (by rw [← HMZ.out]; exact hltj), List.all_append, HZJ.out, e]
                      simp [HSPB.out, hsp])
                    go_upto_region 15 with (fail)
                    go_region
                    go_wp2_with fail
                    go_roundw
                    case rel => exact ⟨j + 1, by omega, by go_num, HNS.out, HBI.out.drew⟩
                    case measure => (simp [intOf]; omega)
                · have hjI : ¬ (j : Int) < m := by omega
                  obtain rfl : j = m := by omega
                  have HALL2 := Lib.hid (show (List.range (k + 1)).all (okAt s) = true from ok_next HALL.out (okAt_yes (.inr (by rw [HLI.out]; have h9 := HL0.out; omega)) (by have h9 := HZJ.out; rwa [List.take_of_length_le (by rw [HMZ.out]; exact Nat.le_refl _)] at h9)))
                  go_wp2_with fail
                  go_roundw
                  case rel => exact ⟨k + 1, by omega, by go_num, by rw [inQ_next, if_neg (by rw [HOU.out]; decide), ← HQ.out]; go_num, HALL2.out, HBI.out⟩
                  case measure => (simp [intOf]; omega)
      · have hkI : ¬ (k : Int) < n := by omega
        obtain rfl : k = n := by omega
        have HB := Lib.hid (show decide (1 < (q : Int)) = quietB s by
          unfold quietB
          rw [← HN.out, HALL.out, HF.out, HQ.out]
          have h9 : ((List.range k).filter fun p : Nat => !(plAt s p).out).length = inQ s k := rfl
          rw [h9]
          simp only [Bool.true_and, ne_eq, not_true_eq_false, decide_false, Bool.false_or]
          exact decide_eq_decide.2 (by omega))
        go_wp2_with fail
        go_ret
        exact ⟨ret_bool HB.out, HB0.out.trans (HBL.out.mono HB0.out.size)⟩
  · have HB := Lib.hid (show true = quietB s by unfold quietB; rw [HF.out]; simp [hf0])
    go_wp2_with fail
    go_ret
    exact ⟨ret_bool HB.out, HB0.out⟩
end Go.Proofs.YtmhklnjmeoeanaaGreatDoor.D
namespace Go.Proofs.YtmhklnjmeoeanaaGreatDoor.D
open Go Go.RowKit
set_option linter.unusedVariables false
set_option linter.unusedSimpArgs false
theorem all_none {s : St} {x : SV} {t : St} {n : Nat} {L : List (EV × Ev)} {k : Int} (hm : ¬ May s) (h : (k = 0 ∧ May s ∧ t = (dueP s).1 ∧ L.map Prod.snd = (dueP s).2) ∨ (k = 10 ∧ ¬ May s ∧ t = zeroSt ∧ x = zeroSV ∧ L = [] ∧ n = 0)) : k = 10 ∧ t = zeroSt ∧ n = 0 := by
  rcases h with ⟨_, h, _⟩ | ⟨h1, _, h2, _, _, h3⟩
  · exact absurd h hm
  · exact ⟨h1, h2, h3⟩
theorem all_some {s : St} {x : SV} {t : St} {n : Nat} {L : List (EV × Ev)} {k : Int} (hm : May s) (h : (k = 0 ∧ May s ∧ t = (dueP s).1 ∧ L.map Prod.snd = (dueP s).2) ∨ (k = 10 ∧ ¬ May s ∧ t = zeroSt ∧ x = zeroSV ∧ L = [] ∧ n = 0)) : k = 0 ∧ t = (dueP s).1 ∧ L.map Prod.snd = (dueP s).2 := by
  rcases h with ⟨h1, _, h2, h3⟩ | ⟨_, h, _⟩
  · exact ⟨h1, h2, h3⟩
  · exact absurd hm h
theorem round_some {s : St} {n : Nat} {L : List (EV × Ev)} {k : Int} (hm : May s) (h : (k = 0 ∧ May s ∧ L.map Prod.snd = (dueP s).2) ∨ (k = 10 ∧ ¬ May s ∧ L = [] ∧ n = 0)) : k = 0 ∧ L.map Prod.snd = (dueP s).2 := by
  rcases h with ⟨h1, _, h3⟩ | ⟨_, h, _⟩
  · exact ⟨h1, h3⟩
  · exact absurd hm h
theorem check_yes {s : St} {k : Int} (hm : May s) (h : (k = 0 ∧ May s) ∨ (k = 10 ∧ ¬ May s)) : k = 0 := by
  rcases h with ⟨h, _⟩ | ⟨_, h⟩
  · exact h
  · exact absurd hm h
theorem rep_all {s t : St} {o : Option St} {fa : Nat} {a k : Int} {x' : SV} {u : St} (hm : May s) (ho : o = some u) (h : (k = 0 ∧ May s ∧ o = some t ∧ a = 0) ∨ (k = 11 ∧ May s ∧ o = none ∧ a = fa ∧ t = zeroSt ∧ x' = zeroSV) ∨ (k = 10 ∧ ¬ May s ∧ a = 0 ∧ t = zeroSt ∧ x' = zeroSV)) : k = 0 ∧ u = t ∧ a = 0 := by
  rcases h with ⟨a, _, b, c⟩ | ⟨_, _, b, _⟩ | ⟨_, b, _⟩
  · exact ⟨a, Option.some.inj (ho.symm.trans b), c⟩
  · rw [ho] at b
    cases b
  · exact absurd hm b
theorem evs_small {L : List (EV × Ev)} {l : List Ev} {n : Nat} (h : L.map Prod.snd = l) (hn : L.length = n) (hr : ∀ e ∈ l, e.order = []) : ∀ k, k < n → (L.getD k zeroP).2.order.length ≤ 33554432 := fun k hk => by
  have h1 : (L.getD k zeroP).2 ∈ l := by
    rw [← h, ← getD_snd, List.getD_eq_getElem?_getD, List.getElem?_eq_getElem (by rw [List.length_map]; omega)]
    exact List.getElem_mem _
  rw [hr _ h1]
  simp
theorem evs_len0 {L : List (EV × Ev)} {l : List Ev} {n : Nat} (h : L.map Prod.snd = l) (hn : L.length = n) : n = l.length := by rw [← h, List.length_map, hn]
set_option maxRecDepth 100000 in
set_option maxHeartbeats 16000000 in
theorem stays_any25 (x : SV) (s : St) (w : World) (h : RdSt w x s) (hw : Sw s) : Calls Tryz.prog 5 #[x.val s] w (BoolPost true w) := by
  obtain ⟨fsS, hfsS⟩ := undSt
  have HFS := Lib.hid hfsS
  have HSW := Lib.hid hw
  obtain ⟨cs, hc⟩ : ∃ c, c = x.arr s := ⟨_, rfl⟩
  have HScs := Lib.hid (show cs.size = 7 by rw [hc]; rfl)
  have HCX := Lib.hid hc
  have hvx : x.val s = .agg cs := by rw [hc]; rfl
  have HVX := Lib.hid hvx
  rw [hvx]
  have h1 : G.Blk (w.alloc (.cells cs 27)) w.heap.size 27 cs := G.Blk.new _ _ _
  have hb0 : Below w.heap.size w (w.alloc (.cells cs 27)) := G.bl_alloc (Below.refl _ _) _
  have HR := Lib.hid (show RdSt (w.alloc (.cells cs 27)) x s from h.below hb0)
  clear h hw hc hfsS hvx
  go_enter Tryz.func5, Tryz.ntmps5
  go_upto_region 1 with (fail)
  obtain ⟨w0, hw0⟩ : ∃ w0, w0 = w.alloc (.cells cs 27) := ⟨_, rfl⟩
  rw [← hw0] at h1 hb0 HR ⊢
  obtain ⟨g, hg⟩ : ∃ g, g = w.heap.size := ⟨_, rfl⟩
  rw [← hg] at h1 ⊢
  have HKg := Lib.hid h1
  have HB := Lib.hid hb0
  clear hw0 hg h1 hb0
  go_wp2_with (first | (refine wpList_load_row_g (by rfl) 27 _ rfl g rfl _ cs (0, 0) _ HKg.out HFS.out rfl (by rw [HScs.out]; exact sizeSt) ?_))
  refine (works_any w0).mono ?_
  rintro e1 w1 ⟨rfl, hb⟩
  have HBZ := Lib.hid hb
  clear hb
  have HKg := Lib.hid (HKg.out.below HBZ.out HKg.out.lt)
  have HB := Lib.hid (G.bl_trans HB.out HBZ.out)
  have HR := Lib.hid (HR.out.below HBZ.out)
  have HSZ := Lib.hid (sizeState_any x s w1 HR.out HSW.out)
  rw [HVX.out] at HSZ
  go_wp2_with (first | (refine wpList_load_row_g (by rfl) 27 _ rfl g rfl _ cs (0, 0) _ HKg.out HFS.out rfl (by rw [HScs.out]; exact sizeSt) ?_))
  refine (HSZ.out).mono ?_
  rintro e2 w2 ⟨rfl, hb⟩
  have HBZ := Lib.hid hb
  clear hb
  have HKg := Lib.hid (HKg.out.below HBZ.out HKg.out.lt)
  have HB := Lib.hid (G.bl_trans HB.out HBZ.out)
  have HR := Lib.hid (HR.out.below HBZ.out)
  obtain ⟨am, ham⟩ : ∃ q, q = amountSt s := ⟨_, rfl⟩
  have HAM := Lib.hid ham
  rw [← ham]
  clear ham
  by_cases hbig : (1048576 : Int) < (am : Int)
  · go_wp2_with fail
    go_ret
    exact ⟨rfl, HB.out⟩
  have HSS := Lib.hid (show Sz s from amount_sz (by rw [← HAM.out]; omega))
  have HCP := Lib.hid (copyState_any x s w2 HR.out HSS.out)
  rw [HVX.out] at HCP
  go_wp2_with (first | (refine wpList_load_row_g (by rfl) 27 _ rfl g rfl _ cs (0, 0) _ HKg.out HFS.out rfl (by rw [HScs.out]; exact sizeSt) ?_))
  refine (HCP.out).mono ?_
  rintro e3 w3 ⟨x3, rfl, ho, hb⟩
  have HBZ := Lib.hid hb
  clear hb
  have HKg := Lib.hid (HKg.out.below HBZ.out HKg.out.lt)
  have HB := Lib.hid (G.bl_trans HB.out HBZ.out)
  have HR := Lib.hid (HR.out.below HBZ.out)
  have HO := Lib.hid ho.rd
  clear ho
  go_wp2_with (first | (refine wpList_load_row_g (by rfl) 27 _ rfl g rfl _ cs (0, 0) _ HKg.out HFS.out rfl (by rw [HScs.out]; exact sizeSt) ?_))
  refine (check_any x3 s w3 HO.out HSS.out).mono ?_
  rintro e4 w4 ⟨k4, at4, rfl, hk4, hb⟩
  have HK4 := Lib.hid hk4
  clear hk4
  have HBZ := Lib.hid hb
  clear hb
  have HKg := Lib.hid (HKg.out.below HBZ.out HKg.out.lt)
  have HB := Lib.hid (G.bl_trans HB.out HBZ.out)
  have HR := Lib.hid (HR.out.below HBZ.out)
  have HCP := Lib.hid (copyState_any x s w4 HR.out HSS.out)
  rw [HVX.out] at HCP
  go_wp2_with (first | (refine wpList_load_row_g (by rfl) 27 _ rfl g rfl _ cs (0, 0) _ HKg.out HFS.out rfl (by rw [HScs.out]; exact sizeSt) ?_))
  refine (HCP.out).mono ?_
  rintro e3 w5 ⟨x5, rfl, ho, hb⟩
  have HBZ := Lib.hid hb
  clear hb
  have HKg := Lib.hid (HKg.out.below HBZ.out HKg.out.lt)
  have HB := Lib.hid (G.bl_trans HB.out HBZ.out)
  have HR := Lib.hid (HR.out.below HBZ.out)
  have HO := Lib.hid ho.rd
  clear ho
  go_wp2_with (first | (refine wpList_load_row_g (by rfl) 27 _ rfl g rfl _ cs (0, 0) _ HKg.out HFS.out rfl (by rw [HScs.out]; exact sizeSt) ?_))
  refine (all_any x5 s w5 HO.out HSS.out).mono ?_
  rintro e6 w6 ⟨x6, A6, n6, c6, L6, t6, k6, rfl, ho, hl, hb, hc6⟩
  have HO6 := Lib.hid ho
  have HL6 := Lib.hid hl
  have HC6 := Lib.hid hc6
  clear ho hl hc6
  have HBZ := Lib.hid hb
  clear hb
  have HKg := Lib.hid (HKg.out.below HBZ.out HKg.out.lt)
  have HB := Lib.hid (G.bl_trans HB.out HBZ.out)
  have HR := Lib.hid (HR.out.below HBZ.out)
  obtain ⟨cy, hcy⟩ : ∃ q, q = x6.arr t6 := ⟨_, rfl⟩
  rw [show x6.val t6 = .agg cy by rw [hcy]; rfl]
  have HCcy := Lib.hid hcy
  have HScy := Lib.hid (show cy.size = 7 by rw [hcy]; rfl)
  have HAcy := Lib.hid (show cy.all (·.oneCell') = true by rw [hcy]; exact arr_one _ _)
  clear hcy
  go_upto_region 6 with (first | (refine wpList_store_row rfl 27 _ _ rfl _ cy rfl rfl 27 _ (heap_alloc_new _ _) (by rw [HScy.out]; exact sizeSt) (by rw [HScy.out]; rfl) HAcy.out ?_))
  generalize hwA : World.setRow _ _ _ = w7
  have hqA : Below w6.heap.size w6 w7 := by rw [← hwA]; exact below_setRow (G.bl_alloc (Below.refl _ _) _) (Nat.le_refl _) _
  have hrA : G.Blk w7 w6.heap.size 27 cy := by rw [← hwA]; exact setRow_heap _ _ _ _ _ _ (heap_alloc_new _ _)
  generalize hgA : w6.heap.size = g6 at hrA ⊢
  clear hwA hgA
  have HBZ := Lib.hid hqA
  clear hqA
  have HKg := Lib.hid (HKg.out.below HBZ.out HKg.out.lt)
  have HB := Lib.hid (G.bl_trans HB.out HBZ.out)
  have HR := Lib.hid (HR.out.below HBZ.out)
  have HKg6 := Lib.hid hrA
  clear hrA
  have HO6 := Lib.hid (HO6.out.below HBZ.out)
  have HL6 := Lib.hid (HL6.out.below HBZ.out)
  by_cases hm : May s
  case neg =>
    have HNM := Lib.hid hm
    obtain rfl : k4 = 10 := by
      rcases HK4.out with ⟨_, h⟩ | ⟨h, _⟩
      · exact absurd h HNM.out
      · exact h
    obtain ⟨rfl, rfl, rfl⟩ := all_none HNM.out HC6.out
    clear hm
    have HE1 := Lib.hid (show Calls Tryz.prog 17 #[.agg cy, .agg #[.slice none 0 0, .slice none 0 0, .slice none 0 0, .int .i32 0, .int .i64 0, .int .i8 0, .int .i64 0]] w7 (BoolPost true w7) by
      have h9 := eqState_any x6 zeroSV zeroSt zeroSt w7 HO6.out.rd (zero_rd w7) zero_sz zero_sz
      rw [decide_eq_true rfl] at h9
      rw [HCcy.out]
      exact h9)
    go_wp2_with (first | (refine wpList_load_row_g (by rfl) 27 _ rfl g rfl _ cs (0, 0) _ HKg.out HFS.out rfl (by rw [HScs.out]; exact sizeSt) ?_) | (refine wpList_load_row_g (by rfl) 27 _ rfl g6 rfl _ cy (0, 0) _ HKg6.out HFS.out rfl (by rw [HScy.out]; exact sizeSt) ?_))
    refine (HE1.out).mono ?_
    rintro e8 w8 ⟨rfl, hb⟩
    have HBZ := Lib.hid hb
    clear hb
    have HKg := Lib.hid (HKg.out.below HBZ.out HKg.out.lt)
    have HB := Lib.hid (G.bl_trans HB.out HBZ.out)
    have HR := Lib.hid (HR.out.below HBZ.out)
    have HKg6 := Lib.hid (HKg6.out.below HBZ.out HKg6.out.lt)
    have HO6 := Lib.hid (HO6.out.below HBZ.out)
    have HL6 := Lib.hid (HL6.out.below HBZ.out)
    go_wp2_with (first | (refine wpList_load_row_g (by rfl) 27 _ rfl g rfl _ cs (0, 0) _ HKg.out HFS.out rfl (by rw [HScs.out]; exact sizeSt) ?_) | (refine wpList_load_row_g (by rfl) 27 _ rfl g6 rfl _ cy (0, 0) _ HKg6.out HFS.out rfl (by rw [HScy.out]; exact sizeSt) ?_))
    go_ret
    exact ⟨rfl, HB.out⟩
  have HM := Lib.hid hm
  obtain rfl : k4 = 0 := check_yes HM.out HK4.out
  obtain ⟨rfl, ht6, hl6⟩ := all_some HM.out HC6.out
  obtain ⟨t, ht⟩ : ∃ q, q = (dueP s).1 := ⟨_, rfl⟩
  obtain rfl : t6 = t := ht6.trans ht.symm
  have HT := Lib.hid ht
  have HLS := Lib.hid hl6
  have HMT := Lib.hid (show May t6 by rw [ht]; exact due_may HM.out)
  have HRUN := Lib.hid (show runE s (L6.map Prod.snd) = some t6 by rw [hl6, ht]; exact due_run HM.out)
  have HLN := Lib.hid (ownEvs_len HL6.out)
  have HORD := Lib.hid (show ∀ k, k < n6 → (L6.getD k zeroP).2.order.length ≤ 33554432 from evs_small hl6 HLN.out (due_orders HM.out))
  have HN33 := Lib.hid (show n6 ≤ 33554432 by rw [evs_len0 hl6 HLN.out]; exact due_len HM.out)
  have HVY := Lib.hid (show x6.val t6 = .agg cy by rw [HCcy.out]; rfl)
  clear hm ht6 ht hl6
  have HCP := Lib.hid (copyState_any x s w7 HR.out HSS.out)
  rw [HVX.out] at HCP
  go_wp2_with (first | (refine wpList_load_row_g (by rfl) 27 _ rfl g rfl _ cs (0, 0) _ HKg.out HFS.out rfl (by rw [HScs.out]; exact sizeSt) ?_) | (refine wpList_load_row_g (by rfl) 27 _ rfl g6 rfl _ cy (0, 0) _ HKg6.out HFS.out rfl (by rw [HScy.out]; exact sizeSt) ?_))
  refine (HCP.out).mono ?_
  rintro e3 w8 ⟨x8, rfl, ho, hb⟩
  have HBZ := Lib.hid hb
  clear hb
  have HKg := Lib.hid (HKg.out.below HBZ.out HKg.out.lt)
  have HB := Lib.hid (G.bl_trans HB.out HBZ.out)
  have HR := Lib.hid (HR.out.below HBZ.out)
  have HKg6 := Lib.hid (HKg6.out.below HBZ.out HKg6.out.lt)
  have HO6 := Lib.hid (HO6.out.below HBZ.out)
  have HL6 := Lib.hid (HL6.out.below HBZ.out)
  have HO := Lib.hid ho.rd
  clear ho
  go_wp2_with (first | (refine wpList_load_row_g (by rfl) 27 _ rfl g rfl _ cs (0, 0) _ HKg.out HFS.out rfl (by rw [HScs.out]; exact sizeSt) ?_) | (refine wpList_load_row_g (by rfl) 27 _ rfl g6 rfl _ cy (0, 0) _ HKg6.out HFS.out rfl (by rw [HScy.out]; exact sizeSt) ?_))
  refine (copyEvents_any A6 n6 c6 L6 w8 HL6.out.rd HN33.out HORD.out).mono ?_
  rintro e9 w9 ⟨A9, n9, c9, L9, rfl, hl, hm9, hb⟩
  have HL9 := Lib.hid hl
  have HM9 := Lib.hid hm9
  clear hl hm9
  have HBZ := Lib.hid hb
  clear hb
  have HKg := Lib.hid (HKg.out.below HBZ.out HKg.out.lt)
  have HB := Lib.hid (G.bl_trans HB.out HBZ.out)
  have HR := Lib.hid (HR.out.below HBZ.out)
  have HKg6 := Lib.hid (HKg6.out.below HBZ.out HKg6.out.lt)
  have HO6 := Lib.hid (HO6.out.below HBZ.out)
  have HL6 := Lib.hid (HL6.out.below HBZ.out)
  have HO := Lib.hid (HO.out.below HBZ.out)
  have HR9 := Lib.hid (show runE s (L9.map Prod.snd) = some t6 by rw [HM9.out]; exact HRUN.out)
  have hfit9 : ∀ k, k < n9 → (L9.getD k zeroP).2.Fits ∧ (L9.getD k zeroP).2.order.length ≤ 33554432 := fun k hk => by
    have h1 : (L9.getD k zeroP).2 ∈ (dueP s).2 := by
      rw [← HLS.out, ← HM9.out, ← getD_snd, List.getD_eq_getElem?_getD, List.getElem?_eq_getElem (by rw [List.length_map, ownEvs_len HL9.out]; exact hk)]
      exact List.getElem_mem _
    exact ⟨due_fits HM.out _ h1, by rw [due_orders HM.out _ h1]; simp⟩
  have HF9 := Lib.hid hfit9
  have hn9 : n9 ≤ 33554432 := by
    have h1 := congrArg List.length HM9.out
    rw [List.length_map, List.length_map, ownEvs_len HL9.out, HLN.out] at h1
    rw [h1]
    exact HN33.out
  clear hfit9
  go_wp2_with (first | (refine wpList_load_row_g (by rfl) 27 _ rfl g rfl _ cs (0, 0) _ HKg.out HFS.out rfl (by rw [HScs.out]; exact sizeSt) ?_) | (refine wpList_load_row_g (by rfl) 27 _ rfl g6 rfl _ cy (0, 0) _ HKg6.out HFS.out rfl (by rw [HScy.out]; exact sizeSt) ?_))
  refine (replay_any x8 s A9 n9 c9 L9 w9 HO.out HSS.out HL9.out.rd HF9.out hn9).mono ?_
  rintro e10 w10 ⟨x10, t10, a10, k10, rfl, ho, hb, hc10⟩
  have HO10 := Lib.hid ho
  obtain ⟨rfl, rfl, rfl⟩ := rep_all HM.out HR9.out hc10
  clear ho hc10
  have HBZ := Lib.hid hb
  clear hb
  have HKg := Lib.hid (HKg.out.below HBZ.out HKg.out.lt)
  have HB := Lib.hid (G.bl_trans HB.out HBZ.out)
  have HR := Lib.hid (HR.out.below HBZ.out)
  have HKg6 := Lib.hid (HKg6.out.below HBZ.out HKg6.out.lt)
  have HO6 := Lib.hid (HO6.out.below HBZ.out)
  have HL6 := Lib.hid (HL6.out.below HBZ.out)
  have HO := Lib.hid (HO.out.below HBZ.out)
  obtain ⟨cu, hcy⟩ : ∃ q, q = x10.arr t6 := ⟨_, rfl⟩
  rw [show x10.val t6 = .agg cu by rw [hcy]; rfl]
  have HCcu := Lib.hid hcy
  have HScu := Lib.hid (show cu.size = 7 by rw [hcy]; rfl)
  have HAcu := Lib.hid (show cu.all (·.oneCell') = true by rw [hcy]; exact arr_one _ _)
  clear hcy
  go_upto_region 11 with (first | (refine wpList_store_row rfl 27 _ _ rfl _ cu rfl rfl 27 _ (heap_alloc_new _ _) (by rw [HScu.out]; exact sizeSt) (by rw [HScu.out]; rfl) HAcu.out ?_))
  generalize hwA : World.setRow _ _ _ = w11
  have hqA : Below w10.heap.size w10 w11 := by rw [← hwA]; exact below_setRow (G.bl_alloc (Below.refl _ _) _) (Nat.le_refl _) _
  have hrA : G.Blk w11 w10.heap.size 27 cu := by rw [← hwA]; exact setRow_heap _ _ _ _ _ _ (heap_alloc_new _ _)
  generalize hgA : w10.heap.size = g9 at hrA ⊢
  clear hwA hgA
  have HBZ := Lib.hid hqA
  clear hqA
  have HKg := Lib.hid (HKg.out.below HBZ.out HKg.out.lt)
  have HB := Lib.hid (G.bl_trans HB.out HBZ.out)
  have HR := Lib.hid (HR.out.below HBZ.out)
  have HKg6 := Lib.hid (HKg6.out.below HBZ.out HKg6.out.lt)
  have HO6 := Lib.hid (HO6.out.below HBZ.out)
  have HL6 := Lib.hid (HL6.out.below HBZ.out)
  have HO := Lib.hid (HO.out.below HBZ.out)
  have HO10 := Lib.hid (HO10.out.below HBZ.out)
  have HKg9 := Lib.hid hrA
  clear hrA
  have HO10 := Lib.hid HO10.out.rd
  have HCP := Lib.hid (copyState_any x6 t6 w11 HO6.out.rd (may_sz HMT.out))
  rw [HVY.out] at HCP
  go_wp2_with (first | (refine wpList_load_row_g (by rfl) 27 _ rfl g rfl _ cs (0, 0) _ HKg.out HFS.out rfl (by rw [HScs.out]; exact sizeSt) ?_) | (refine wpList_load_row_g (by rfl) 27 _ rfl g6 rfl _ cy (0, 0) _ HKg6.out HFS.out rfl (by rw [HScy.out]; exact sizeSt) ?_) | (refine wpList_load_row_g (by rfl) 27 _ rfl g9 rfl _ cu (0, 0) _ HKg9.out HFS.out rfl (by rw [HScu.out]; exact sizeSt) ?_))
  refine (HCP.out).mono ?_
  rintro e3 w12 ⟨x12, rfl, ho, hb⟩
  have HBZ := Lib.hid hb
  clear hb
  have HKg := Lib.hid (HKg.out.below HBZ.out HKg.out.lt)
  have HB := Lib.hid (G.bl_trans HB.out HBZ.out)
  have HR := Lib.hid (HR.out.below HBZ.out)
  have HKg6 := Lib.hid (HKg6.out.below HBZ.out HKg6.out.lt)
  have HO6 := Lib.hid (HO6.out.below HBZ.out)
  have HL6 := Lib.hid (HL6.out.below HBZ.out)
  have HO := Lib.hid (HO.out.below HBZ.out)
  have HO10 := Lib.hid (HO10.out.below HBZ.out)
  have HKg9 := Lib.hid (HKg9.out.below HBZ.out HKg9.out.lt)
  have HO := Lib.hid ho.rd
  clear ho
  go_wp2_with (first | (refine wpList_load_row_g (by rfl) 27 _ rfl g rfl _ cs (0, 0) _ HKg.out HFS.out rfl (by rw [HScs.out]; exact sizeSt) ?_) | (refine wpList_load_row_g (by rfl) 27 _ rfl g6 rfl _ cy (0, 0) _ HKg6.out HFS.out rfl (by rw [HScy.out]; exact sizeSt) ?_) | (refine wpList_load_row_g (by rfl) 27 _ rfl g9 rfl _ cu (0, 0) _ HKg9.out HFS.out rfl (by rw [HScu.out]; exact sizeSt) ?_))
  refine (check_any x12 t6 w12 HO.out (may_sz HMT.out)).mono ?_
  rintro e13 w13 ⟨k13, at13, rfl, hk13, hb⟩
  obtain rfl : k13 = 0 := check_yes HMT.out hk13
  clear hk13
  have HBZ := Lib.hid hb
  clear hb
  have HKg := Lib.hid (HKg.out.below HBZ.out HKg.out.lt)
  have HB := Lib.hid (G.bl_trans HB.out HBZ.out)
  have HR := Lib.hid (HR.out.below HBZ.out)
  have HKg6 := Lib.hid (HKg6.out.below HBZ.out HKg6.out.lt)
  have HO6 := Lib.hid (HO6.out.below HBZ.out)
  have HL6 := Lib.hid (HL6.out.below HBZ.out)
  have HO := Lib.hid (HO.out.below HBZ.out)
  have HO10 := Lib.hid (HO10.out.below HBZ.out)
  have HKg9 := Lib.hid (HKg9.out.below HBZ.out HKg9.out.lt)
  have HE1 := Lib.hid (show Calls Tryz.prog 17 #[.agg cu, .agg cy] w13 (BoolPost true w13) by
    have h9 := eqState_any x10 x6 t6 t6 w13 HO10.out HO6.out.rd (may_sz HMT.out) (may_sz HMT.out)
    rw [decide_eq_true rfl] at h9
    rw [HCcu.out, HCcy.out]
    exact h9)
  go_wp2_with (first | (refine wpList_load_row_g (by rfl) 27 _ rfl g rfl _ cs (0, 0) _ HKg.out HFS.out rfl (by rw [HScs.out]; exact sizeSt) ?_) | (refine wpList_load_row_g (by rfl) 27 _ rfl g6 rfl _ cy (0, 0) _ HKg6.out HFS.out rfl (by rw [HScy.out]; exact sizeSt) ?_) | (refine wpList_load_row_g (by rfl) 27 _ rfl g9 rfl _ cu (0, 0) _ HKg9.out HFS.out rfl (by rw [HScu.out]; exact sizeSt) ?_))
  refine (HE1.out).mono ?_
  rintro e14 w14 ⟨rfl, hb⟩
  have HBZ := Lib.hid hb
  clear hb
  have HKg := Lib.hid (HKg.out.below HBZ.out HKg.out.lt)
  have HB := Lib.hid (G.bl_trans HB.out HBZ.out)
  have HR := Lib.hid (HR.out.below HBZ.out)
  have HKg6 := Lib.hid (HKg6.out.below HBZ.out HKg6.out.lt)
  have HO6 := Lib.hid (HO6.out.below HBZ.out)
  have HL6 := Lib.hid (HL6.out.below HBZ.out)
  have HO := Lib.hid (HO.out.below HBZ.out)
  have HO10 := Lib.hid (HO10.out.below HBZ.out)
  have HKg9 := Lib.hid (HKg9.out.below HBZ.out HKg9.out.lt)
  have HQ1 := Lib.hid (show Calls Tryz.prog 26 #[.agg cy] w14 (BoolPost true w14) by
    have h9 := quiet_any x6 t6 w14 HO6.out.rd HMT.out
    rw [(quietB_iff HMT.out).2 (by rw [HT.out]; exact due_quiet HM.out), HVY.out] at h9
    exact h9)
  go_wp2_with (first | (refine wpList_load_row_g (by rfl) 27 _ rfl g rfl _ cs (0, 0) _ HKg.out HFS.out rfl (by rw [HScs.out]; exact sizeSt) ?_) | (refine wpList_load_row_g (by rfl) 27 _ rfl g6 rfl _ cy (0, 0) _ HKg6.out HFS.out rfl (by rw [HScy.out]; exact sizeSt) ?_) | (refine wpList_load_row_g (by rfl) 27 _ rfl g9 rfl _ cu (0, 0) _ HKg9.out HFS.out rfl (by rw [HScu.out]; exact sizeSt) ?_))
  refine (HQ1.out).mono ?_
  rintro e15 w15 ⟨rfl, hb⟩
  have HBZ := Lib.hid hb
  clear hb
  have HKg := Lib.hid (HKg.out.below HBZ.out HKg.out.lt)
  have HB := Lib.hid (G.bl_trans HB.out HBZ.out)
  have HR := Lib.hid (HR.out.below HBZ.out)
  have HKg6 := Lib.hid (HKg6.out.below HBZ.out HKg6.out.lt)
  have HO6 := Lib.hid (HO6.out.below HBZ.out)
  have HL6 := Lib.hid (HL6.out.below HBZ.out)
  have HO := Lib.hid (HO.out.below HBZ.out)
  have HO10 := Lib.hid (HO10.out.below HBZ.out)
  have HKg9 := Lib.hid (HKg9.out.below HBZ.out HKg9.out.lt)
  have HQ2 := Lib.hid (show Calls Tryz.prog 26 #[.agg cs] w15 (BoolPost ((n6 : Int) == 0) w15) by
    have h9 := quiet_any x s w15 HR.out HM.out
    rw [HVX.out] at h9
    have h8 : quietB s = ((n6 : Int) == 0) := by
      have h7 := evs_len0 HLS.out HLN.out
      cases hq : quietB s with
      | true =>
        have h6 := (quiet_iff HM.out).1 ((quietB_iff HM.out).1 hq)
        rw [h6] at h7
        rw [h7]
        rfl
      | false =>
        have h6 : n6 ≠ 0 := fun e => by
          rw [e] at h7
          rw [(quietB_iff HM.out).2 ((quiet_iff HM.out).2 (List.eq_nil_of_length_eq_zero h7.symm))] at hq
          cases hq
        exact (beq_eq_false_iff_ne.2 (by omega)).symm
    rw [h8] at h9
    exact h9)
  go_wp2_with (first | (refine wpList_load_row_g (by rfl) 27 _ rfl g rfl _ cs (0, 0) _ HKg.out HFS.out rfl (by rw [HScs.out]; exact sizeSt) ?_) | (refine wpList_load_row_g (by rfl) 27 _ rfl g6 rfl _ cy (0, 0) _ HKg6.out HFS.out rfl (by rw [HScy.out]; exact sizeSt) ?_) | (refine wpList_load_row_g (by rfl) 27 _ rfl g9 rfl _ cu (0, 0) _ HKg9.out HFS.out rfl (by rw [HScu.out]; exact sizeSt) ?_))
  refine (HQ2.out).mono ?_
  rintro e16 w16 ⟨rfl, hb⟩
  have HBZ := Lib.hid hb
  clear hb
  have HKg := Lib.hid (HKg.out.below HBZ.out HKg.out.lt)
  have HB := Lib.hid (G.bl_trans HB.out HBZ.out)
  have HR := Lib.hid (HR.out.below HBZ.out)
  have HKg6 := Lib.hid (HKg6.out.below HBZ.out HKg6.out.lt)
  have HO6 := Lib.hid (HO6.out.below HBZ.out)
  have HL6 := Lib.hid (HL6.out.below HBZ.out)
  have HO := Lib.hid (HO.out.below HBZ.out)
  have HO10 := Lib.hid (HO10.out.below HBZ.out)
  have HKg9 := Lib.hid (HKg9.out.below HBZ.out HKg9.out.lt)
  have HCP := Lib.hid (copyState_any x6 t6 w16 HO6.out.rd (may_sz HMT.out))
  rw [HVY.out] at HCP
  go_wp2_with (first | (refine wpList_load_row_g (by rfl) 27 _ rfl g rfl _ cs (0, 0) _ HKg.out HFS.out rfl (by rw [HScs.out]; exact sizeSt) ?_) | (refine wpList_load_row_g (by rfl) 27 _ rfl g6 rfl _ cy (0, 0) _ HKg6.out HFS.out rfl (by rw [HScy.out]; exact sizeSt) ?_) | (refine wpList_load_row_g (by rfl) 27 _ rfl g9 rfl _ cu (0, 0) _ HKg9.out HFS.out rfl (by rw [HScu.out]; exact sizeSt) ?_))
  refine (HCP.out).mono ?_
  rintro e3 w17 ⟨x17, rfl, ho, hb⟩
  have HBZ := Lib.hid hb
  clear hb
  have HKg := Lib.hid (HKg.out.below HBZ.out HKg.out.lt)
  have HB := Lib.hid (G.bl_trans HB.out HBZ.out)
  have HR := Lib.hid (HR.out.below HBZ.out)
  have HKg6 := Lib.hid (HKg6.out.below HBZ.out HKg6.out.lt)
  have HO6 := Lib.hid (HO6.out.below HBZ.out)
  have HL6 := Lib.hid (HL6.out.below HBZ.out)
  have HO := Lib.hid (HO.out.below HBZ.out)
  have HO10 := Lib.hid (HO10.out.below HBZ.out)
  have HKg9 := Lib.hid (HKg9.out.below HBZ.out HKg9.out.lt)
  have HO := Lib.hid ho.rd
  clear ho
  go_wp2_with (first | (refine wpList_load_row_g (by rfl) 27 _ rfl g rfl _ cs (0, 0) _ HKg.out HFS.out rfl (by rw [HScs.out]; exact sizeSt) ?_) | (refine wpList_load_row_g (by rfl) 27 _ rfl g6 rfl _ cy (0, 0) _ HKg6.out HFS.out rfl (by rw [HScy.out]; exact sizeSt) ?_) | (refine wpList_load_row_g (by rfl) 27 _ rfl g9 rfl _ cu (0, 0) _ HKg9.out HFS.out rfl (by rw [HScu.out]; exact sizeSt) ?_))
  refine (all_any x17 t6 w17 HO.out (may_sz HMT.out)).mono ?_
  rintro e18 w18 ⟨x18, A18, n18, c18, L18, t18, k18, rfl, ho, hl, hb, hc18⟩
  have HO18 := Lib.hid ho
  obtain ⟨rfl, ht18, hl18⟩ := all_some HMT.out hc18
  rw [HT.out, due_again HM.out, ← HT.out] at ht18 hl18
  obtain rfl : t6 = t18 := ht18.symm
  obtain rfl : n18 = 0 := evs_len0 hl18 (ownEvs_len hl)
  clear ho hl hc18 hl18
  have HBZ := Lib.hid hb
  clear hb
  have HKg := Lib.hid (HKg.out.below HBZ.out HKg.out.lt)
  have HB := Lib.hid (G.bl_trans HB.out HBZ.out)
  have HR := Lib.hid (HR.out.below HBZ.out)
  have HKg6 := Lib.hid (HKg6.out.below HBZ.out HKg6.out.lt)
  have HO6 := Lib.hid (HO6.out.below HBZ.out)
  have HL6 := Lib.hid (HL6.out.below HBZ.out)
  have HO := Lib.hid (HO.out.below HBZ.out)
  have HO10 := Lib.hid (HO10.out.below HBZ.out)
  have HKg9 := Lib.hid (HKg9.out.below HBZ.out HKg9.out.lt)
  obtain ⟨ca, hcy⟩ : ∃ q, q = x18.arr t6 := ⟨_, rfl⟩
  rw [show x18.val t6 = .agg ca by rw [hcy]; rfl]
  have HCca := Lib.hid hcy
  have HSca := Lib.hid (show ca.size = 7 by rw [hcy]; rfl)
  have HAca := Lib.hid (show ca.all (·.oneCell') = true by rw [hcy]; exact arr_one _ _)
  clear hcy
  go_upto_region 15 with (first | (refine wpList_store_row rfl 27 _ _ rfl _ ca rfl rfl 27 _ (heap_alloc_new _ _) (by rw [HSca.out]; exact sizeSt) (by rw [HSca.out]; rfl) HAca.out ?_))
  generalize hwA : World.setRow _ _ _ = w19
  have hqA : Below w18.heap.size w18 w19 := by rw [← hwA]; exact below_setRow (G.bl_alloc (Below.refl _ _) _) (Nat.le_refl _) _
  have hrA : G.Blk w19 w18.heap.size 27 ca := by rw [← hwA]; exact setRow_heap _ _ _ _ _ _ (heap_alloc_new _ _)
  generalize hgA : w18.heap.size = g14 at hrA ⊢
  clear hwA hgA
  have HBZ := Lib.hid hqA
  clear hqA
  have HKg := Lib.hid (HKg.out.below HBZ.out HKg.out.lt)
  have HB := Lib.hid (G.bl_trans HB.out HBZ.out)
  have HR := Lib.hid (HR.out.below HBZ.out)
  have HKg6 := Lib.hid (HKg6.out.below HBZ.out HKg6.out.lt)
  have HO6 := Lib.hid (HO6.out.below HBZ.out)
  have HL6 := Lib.hid (HL6.out.below HBZ.out)
  have HO := Lib.hid (HO.out.below HBZ.out)
  have HO10 := Lib.hid (HO10.out.below HBZ.out)
  have HKg9 := Lib.hid (HKg9.out.below HBZ.out HKg9.out.lt)
  have HO18 := Lib.hid (HO18.out.below HBZ.out)
  have HKg14 := Lib.hid hrA
  clear hrA
  have HO18 := Lib.hid HO18.out.rd
  have HCP := Lib.hid (copyState_any x s w19 HR.out HSS.out)
  rw [HVX.out] at HCP
  go_wp2_with (first | (refine wpList_load_row_g (by rfl) 27 _ rfl g rfl _ cs (0, 0) _ HKg.out HFS.out rfl (by rw [HScs.out]; exact sizeSt) ?_) | (refine wpList_load_row_g (by rfl) 27 _ rfl g6 rfl _ cy (0, 0) _ HKg6.out HFS.out rfl (by rw [HScy.out]; exact sizeSt) ?_) | (refine wpList_load_row_g (by rfl) 27 _ rfl g9 rfl _ cu (0, 0) _ HKg9.out HFS.out rfl (by rw [HScu.out]; exact sizeSt) ?_) | (refine wpList_load_row_g (by rfl) 27 _ rfl g14 rfl _ ca (0, 0) _ HKg14.out HFS.out rfl (by rw [HSca.out]; exact sizeSt) ?_))
  refine (HCP.out).mono ?_
  rintro e3 w20 ⟨x20, rfl, ho, hb⟩
  have HBZ := Lib.hid hb
  clear hb
  have HKg := Lib.hid (HKg.out.below HBZ.out HKg.out.lt)
  have HB := Lib.hid (G.bl_trans HB.out HBZ.out)
  have HR := Lib.hid (HR.out.below HBZ.out)
  have HKg6 := Lib.hid (HKg6.out.below HBZ.out HKg6.out.lt)
  have HO6 := Lib.hid (HO6.out.below HBZ.out)
  have HL6 := Lib.hid (HL6.out.below HBZ.out)
  have HO := Lib.hid (HO.out.below HBZ.out)
  have HO10 := Lib.hid (HO10.out.below HBZ.out)
  have HKg9 := Lib.hid (HKg9.out.below HBZ.out HKg9.out.lt)
  have HO18 := Lib.hid (HO18.out.below HBZ.out)
  have HKg14 := Lib.hid (HKg14.out.below HBZ.out HKg14.out.lt)
  have HO := Lib.hid ho.rd
  clear ho
  go_wp2_with (first | (refine wpList_load_row_g (by rfl) 27 _ rfl g rfl _ cs (0, 0) _ HKg.out HFS.out rfl (by rw [HScs.out]; exact sizeSt) ?_) | (refine wpList_load_row_g (by rfl) 27 _ rfl g6 rfl _ cy (0, 0) _ HKg6.out HFS.out rfl (by rw [HScy.out]; exact sizeSt) ?_) | (refine wpList_load_row_g (by rfl) 27 _ rfl g9 rfl _ cu (0, 0) _ HKg9.out HFS.out rfl (by rw [HScu.out]; exact sizeSt) ?_) | (refine wpList_load_row_g (by rfl) 27 _ rfl g14 rfl _ ca (0, 0) _ HKg14.out HFS.out rfl (by rw [HSca.out]; exact sizeSt) ?_))
  refine (round_any x20 s w20 HO.out HSS.out).mono ?_
  rintro e21 w21 ⟨A21, n21, c21, L21, k21, rfl, hl, hb, hc21⟩
  obtain ⟨rfl, hl21⟩ := round_some HM.out hc21
  have HL21 := Lib.hid hl
  have HLS21 := Lib.hid hl21
  clear hl hc21 hl21
  have HBZ := Lib.hid hb
  clear hb
  have HKg := Lib.hid (HKg.out.below HBZ.out HKg.out.lt)
  have HB := Lib.hid (G.bl_trans HB.out HBZ.out)
  have HR := Lib.hid (HR.out.below HBZ.out)
  have HKg6 := Lib.hid (HKg6.out.below HBZ.out HKg6.out.lt)
  have HO6 := Lib.hid (HO6.out.below HBZ.out)
  have HL6 := Lib.hid (HL6.out.below HBZ.out)
  have HO := Lib.hid (HO.out.below HBZ.out)
  have HO10 := Lib.hid (HO10.out.below HBZ.out)
  have HKg9 := Lib.hid (HKg9.out.below HBZ.out HKg9.out.lt)
  have HO18 := Lib.hid (HO18.out.below HBZ.out)
  have HKg14 := Lib.hid (HKg14.out.below HBZ.out HKg14.out.lt)
  have HL21 := Lib.hid (HL21.out)
  have HCP := Lib.hid (copyState_any x6 t6 w21 HO6.out.rd (may_sz HMT.out))
  rw [HVY.out] at HCP
  go_wp2_with (first | (refine wpList_load_row_g (by rfl) 27 _ rfl g rfl _ cs (0, 0) _ HKg.out HFS.out rfl (by rw [HScs.out]; exact sizeSt) ?_) | (refine wpList_load_row_g (by rfl) 27 _ rfl g6 rfl _ cy (0, 0) _ HKg6.out HFS.out rfl (by rw [HScy.out]; exact sizeSt) ?_) | (refine wpList_load_row_g (by rfl) 27 _ rfl g9 rfl _ cu (0, 0) _ HKg9.out HFS.out rfl (by rw [HScu.out]; exact sizeSt) ?_) | (refine wpList_load_row_g (by rfl) 27 _ rfl g14 rfl _ ca (0, 0) _ HKg14.out HFS.out rfl (by rw [HSca.out]; exact sizeSt) ?_))
  refine (HCP.out).mono ?_
  rintro e3 w22 ⟨x22, rfl, ho, hb⟩
  have HBZ := Lib.hid hb
  clear hb
  have HKg := Lib.hid (HKg.out.below HBZ.out HKg.out.lt)
  have HB := Lib.hid (G.bl_trans HB.out HBZ.out)
  have HR := Lib.hid (HR.out.below HBZ.out)
  have HKg6 := Lib.hid (HKg6.out.below HBZ.out HKg6.out.lt)
  have HO6 := Lib.hid (HO6.out.below HBZ.out)
  have HL6 := Lib.hid (HL6.out.below HBZ.out)
  have HO := Lib.hid (HO.out.below HBZ.out)
  have HO10 := Lib.hid (HO10.out.below HBZ.out)
  have HKg9 := Lib.hid (HKg9.out.below HBZ.out HKg9.out.lt)
  have HO18 := Lib.hid (HO18.out.below HBZ.out)
  have HKg14 := Lib.hid (HKg14.out.below HBZ.out HKg14.out.lt)
  have HL21 := Lib.hid (HL21.out.below HBZ.out)
  have HO := Lib.hid ho.rd
  clear ho
  go_wp2_with (first | (refine wpList_load_row_g (by rfl) 27 _ rfl g rfl _ cs (0, 0) _ HKg.out HFS.out rfl (by rw [HScs.out]; exact sizeSt) ?_) | (refine wpList_load_row_g (by rfl) 27 _ rfl g6 rfl _ cy (0, 0) _ HKg6.out HFS.out rfl (by rw [HScy.out]; exact sizeSt) ?_) | (refine wpList_load_row_g (by rfl) 27 _ rfl g9 rfl _ cu (0, 0) _ HKg9.out HFS.out rfl (by rw [HScu.out]; exact sizeSt) ?_) | (refine wpList_load_row_g (by rfl) 27 _ rfl g14 rfl _ ca (0, 0) _ HKg14.out HFS.out rfl (by rw [HSca.out]; exact sizeSt) ?_))
  refine (round_any x22 t6 w22 HO.out (may_sz HMT.out)).mono ?_
  rintro e23 w23 ⟨A23, n23, c23, L23, k23, rfl, hl, hb, hc23⟩
  obtain ⟨rfl, hl23⟩ := round_some HMT.out hc23
  rw [HT.out, due_again HM.out] at hl23
  obtain rfl : n23 = 0 := evs_len0 hl23 (ownEvs_len hl)
  clear hl hc23 hl23
  have HBZ := Lib.hid hb
  clear hb
  have HKg := Lib.hid (HKg.out.below HBZ.out HKg.out.lt)
  have HB := Lib.hid (G.bl_trans HB.out HBZ.out)
  have HR := Lib.hid (HR.out.below HBZ.out)
  have HKg6 := Lib.hid (HKg6.out.below HBZ.out HKg6.out.lt)
  have HO6 := Lib.hid (HO6.out.below HBZ.out)
  have HL6 := Lib.hid (HL6.out.below HBZ.out)
  have HO := Lib.hid (HO.out.below HBZ.out)
  have HO10 := Lib.hid (HO10.out.below HBZ.out)
  have HKg9 := Lib.hid (HKg9.out.below HBZ.out HKg9.out.lt)
  have HO18 := Lib.hid (HO18.out.below HBZ.out)
  have HKg14 := Lib.hid (HKg14.out.below HBZ.out HKg14.out.lt)
  have HL21 := Lib.hid (HL21.out.below HBZ.out)
  have HE2 := Lib.hid (show Calls Tryz.prog 17 #[.agg ca, .agg cy] w23 (BoolPost true w23) by
    have h9 := eqState_any x18 x6 t6 t6 w23 HO18.out HO6.out.rd (may_sz HMT.out) (may_sz HMT.out)
    rw [decide_eq_true rfl] at h9
    rw [HCca.out, HCcy.out]
    exact h9)
  go_wp2_with (first | (refine wpList_load_row_g (by rfl) 27 _ rfl g rfl _ cs (0, 0) _ HKg.out HFS.out rfl (by rw [HScs.out]; exact sizeSt) ?_) | (refine wpList_load_row_g (by rfl) 27 _ rfl g6 rfl _ cy (0, 0) _ HKg6.out HFS.out rfl (by rw [HScy.out]; exact sizeSt) ?_) | (refine wpList_load_row_g (by rfl) 27 _ rfl g9 rfl _ cu (0, 0) _ HKg9.out HFS.out rfl (by rw [HScu.out]; exact sizeSt) ?_) | (refine wpList_load_row_g (by rfl) 27 _ rfl g14 rfl _ ca (0, 0) _ HKg14.out HFS.out rfl (by rw [HSca.out]; exact sizeSt) ?_))
  refine (HE2.out).mono ?_
  rintro e24 w24 ⟨rfl, hb⟩
  have HBZ := Lib.hid hb
  clear hb
  have HKg := Lib.hid (HKg.out.below HBZ.out HKg.out.lt)
  have HB := Lib.hid (G.bl_trans HB.out HBZ.out)
  have HR := Lib.hid (HR.out.below HBZ.out)
  have HKg6 := Lib.hid (HKg6.out.below HBZ.out HKg6.out.lt)
  have HO6 := Lib.hid (HO6.out.below HBZ.out)
  have HL6 := Lib.hid (HL6.out.below HBZ.out)
  have HO := Lib.hid (HO.out.below HBZ.out)
  have HO10 := Lib.hid (HO10.out.below HBZ.out)
  have HKg9 := Lib.hid (HKg9.out.below HBZ.out HKg9.out.lt)
  have HO18 := Lib.hid (HO18.out.below HBZ.out)
  have HKg14 := Lib.hid (HKg14.out.below HBZ.out HKg14.out.lt)
  have HL21 := Lib.hid (HL21.out.below HBZ.out)
  have HE3 := Lib.hid (show Calls Tryz.prog 19 #[.slice A21 n21 c21, .slice A6 n6 c6] w24 (BoolPost true w24) by
    have h9 := eqEvents_any A21 A6 n21 n6 c21 c6 L21 L6 w24 HL21.out.rd HL6.out.rd (by rw [evs_len0 HLS21.out (ownEvs_len HL21.out)]; exact due_len HM.out) (evs_small HLS21.out (ownEvs_len HL21.out) (due_orders HM.out)) HORD.out
    rw [decide_eq_true (show evs L21 = evs L6 from HLS21.out.trans HLS.out.symm)] at h9
    exact h9)
  go_wp2_with (first | (refine wpList_load_row_g (by rfl) 27 _ rfl g rfl _ cs (0, 0) _ HKg.out HFS.out rfl (by rw [HScs.out]; exact sizeSt) ?_) | (refine wpList_load_row_g (by rfl) 27 _ rfl g6 rfl _ cy (0, 0) _ HKg6.out HFS.out rfl (by rw [HScy.out]; exact sizeSt) ?_) | (refine wpList_load_row_g (by rfl) 27 _ rfl g9 rfl _ cu (0, 0) _ HKg9.out HFS.out rfl (by rw [HScu.out]; exact sizeSt) ?_) | (refine wpList_load_row_g (by rfl) 27 _ rfl g14 rfl _ ca (0, 0) _ HKg14.out HFS.out rfl (by rw [HSca.out]; exact sizeSt) ?_))
  refine (HE3.out).mono ?_
  rintro e25 w25 ⟨rfl, hb⟩
  have HBZ := Lib.hid hb
  clear hb
  have HKg := Lib.hid (HKg.out.below HBZ.out HKg.out.lt)
  have HB := Lib.hid (G.bl_trans HB.out HBZ.out)
  have HR := Lib.hid (HR.out.below HBZ.out)
  have HKg6 := Lib.hid (HKg6.out.below HBZ.out HKg6.out.lt)
  have HO6 := Lib.hid (HO6.out.below HBZ.out)
  have HL6 := Lib.hid (HL6.out.below HBZ.out)
  have HO := Lib.hid (HO.out.below HBZ.out)
  have HO10 := Lib.hid (HO10.out.below HBZ.out)
  have HKg9 := Lib.hid (HKg9.out.below HBZ.out HKg9.out.lt)
  have HO18 := Lib.hid (HO18.out.below HBZ.out)
  have HKg14 := Lib.hid (HKg14.out.below HBZ.out HKg14.out.lt)
  have HL21 := Lib.hid (HL21.out.below HBZ.out)
  go_wp2_with (first | (refine wpList_load_row_g (by rfl) 27 _ rfl g rfl _ cs (0, 0) _ HKg.out HFS.out rfl (by rw [HScs.out]; exact sizeSt) ?_) | (refine wpList_load_row_g (by rfl) 27 _ rfl g6 rfl _ cy (0, 0) _ HKg6.out HFS.out rfl (by rw [HScy.out]; exact sizeSt) ?_) | (refine wpList_load_row_g (by rfl) 27 _ rfl g9 rfl _ cu (0, 0) _ HKg9.out HFS.out rfl (by rw [HScu.out]; exact sizeSt) ?_) | (refine wpList_load_row_g (by rfl) 27 _ rfl g14 rfl _ ca (0, 0) _ HKg14.out HFS.out rfl (by rw [HSca.out]; exact sizeSt) ?_))
  go_ret
  exact ⟨rfl, HB.out⟩
end Go.Proofs.YtmhklnjmeoeanaaGreatDoor.D

/- A world cut to its first blocks; an empty bag; what a spoilt span leaves. -/
import Derived.Test.YtofgmijmhpmabaaGreatDoorDWideS
import Derived.Test.YtofgmijmhpmabaaGreatDoorDShuf
namespace Go.Proofs.YtofgmijmhpmabaaGreatDoor.D
open Go Go.RowKit
set_option linter.unusedVariables false
set_option linter.unusedSimpArgs false
/-- Only blocks from B up to T have changed. -/
structure Span (B T : Nat) (w w' : World) : Prop where
 os : w'.os = w.os
 tape : w'.tape = w.tape
 output : w'.output = w.output
 size : w.heap.size ≤ w'.heap.size
 block : ∀ k, k < B ∨ T ≤ k → k < w.heap.size → w'.heap[k]? = w.heap[k]?
theorem Span.refl (B T : Nat) (w : World) : Span B T w w := ⟨rfl, rfl, rfl, Nat.le_refl _, fun _ _ _ => rfl⟩
theorem Span.set {B T : Nat} {w w' : World} {g i : Nat} (h : Span B T w w') (h1 : B ≤ g) (h2 : g < T) (u : Value) : Span B T w (w'.setCell ⟨g, i, none⟩ u) :=
 ⟨h.os, h.tape, h.output, by have := h.size; simpa [World.setCell] using this, fun k hk hl => (Below.heap_setCell w' ⟨g, i, none⟩ u k (by show k ≠ g; omega)).trans (h.block k hk hl)⟩
theorem Span.drew {B T : Nat} {w w' : World} (h : Span B T w w') : Span B T w w'.drew := ⟨h.os, h.tape, h.output, h.size, h.block⟩
theorem Span.later {B T : Nat} {w w1 w' : World} (h : Below w.heap.size w w1) (k : Span B T w1 w') : Span B T w w' :=
 ⟨k.os.trans h.os, k.tape.trans h.tape, k.output.trans h.output, Nat.le_trans h.size k.size, fun i hi hl => (k.block i hi (Nat.lt_of_lt_of_le hl h.size)).trans (h.block i hl)⟩
theorem Span.blk {B T : Nat} {w w' : World} {g : Nat} {t : TypeId} {cs : Array Value} (h : Span B T w w') (hb : G.Blk w g t cs) (hg : T ≤ g) : G.Blk w' g t cs := (h.block g (.inr hg) hb.lt).trans hb
theorem Span.own {B T : Nat} {w w' : World} {base e sz n : Nat} {v : Value} {xs : List Value} (h : Span B T w w') (ho : w.ownsRow base e sz v n xs) (hb : T ≤ base) : w'.ownsRow base e sz v n xs := by
 obtain ⟨h1, h2⟩ := ho
 refine ⟨h1, ?_⟩
 rcases h2 with hn | ⟨g, cap, cur, rfl, hbg, hg, rest⟩
 ·exact .inl hn
 ·exact .inr ⟨g, cap, cur, rfl, hbg, (h.block g (.inr (by omega)) (Array.getElem?_eq_some_iff.1 hg).1).trans hg, rest⟩
theorem OwnSt.span {B T : Nat} {w w' : World} {base : Nat} {x : SV} {s : St} (h : OwnSt w base x s) (k : Span B T w w') (hb : T ≤ base) : OwnSt w' base x s :=
 ⟨k.own h.p hb, k.own h.c hb, k.own h.z hb, fun i hi => k.own (h.rows i hi) hb, h.apart⟩
/-- An entry of a row is written. -/
theorem OwnSt.rset {w : World} {base : Nat} {x : SV} {s : St} {i k gr cap : Nat} {v : Int} (h : OwnSt w base x s) (hi : i < s.zones.length) (hv : x.rows.getD i undef = .slice (some ⟨gr, 0, none⟩) (s.zones.getD i []).length cap) :
 OwnSt (w.setCell ⟨gr, k, none⟩ (.int .i64 v)) base x { s with zones := s.zones.set i ((s.zones.getD i []).set k v) } := by
 have hr := h.rows i hi
 rw [hv] at hr
 have hst := hr.stored k (.int .i64 v)
 have hb := (h.but i).wrote (w' := w.setCell ⟨gr, k, none⟩ (.int .i64 v)) hi (h.rows i hi) (by rw [hv]; exact hst.2)
 refine ⟨hb.p, hb.c, ?_, fun j hj => ?_, fun a b ha hb2 hn => ?_⟩
 ·simp only [List.length_set]
  exact hb.z
 ·simp only [List.length_set] at hj ⊢
  by_cases e : i = j
  ·subst e
   rw [getD_set_eq hi, hv, List.length_set]
   have h9 := hst.1
   rw [i64s_set] at h9
   exact h9
  ·rw [getD_set_ne e]
   exact hb.rows j hj (fun e2 => e e2.symm)
 ·simp only [List.length_set] at ha hb2
  exact h.apart a b ha hb2 hn
def SLen (t s : St) : Prop := t.players.length = s.players.length ∧ t.cards.length = s.cards.length ∧ t.zones.length = s.zones.length ∧ ∀ i, (t.zones.getD i []).length = (s.zones.getD i []).length
theorem SLen.row {t s : St} {i k : Nat} {v : Int} (h : SLen t s) : SLen { t with zones := t.zones.set i ((t.zones.getD i []).set k v) } s := by
 refine ⟨h.1, h.2.1, by simp only [List.length_set]; exact h.2.2.1, fun j => ?_⟩
 simp only
 by_cases e : i = j
 ·subst e
  by_cases hi : i < t.zones.length
  ·rw [getD_set_eq hi, List.length_set]
   exact h.2.2.2 i
  ·rw [List.set_eq_of_length_le (by omega)]
   exact h.2.2.2 i
 ·rw [getD_set_ne e]
  exact h.2.2.2 j
structure SpI (base T : Nat) (x : SV) (s : St) (w1 wr : World) : Prop where
 own : ∃ t, OwnSt wr base x t ∧ SLen t s
 span : Span base T w1 wr
theorem SpI.drew {base T : Nat} {x : SV} {s : St} {w1 wr : World} (h : SpI base T x s w1 wr) : SpI base T x s w1 wr.drew := by
 obtain ⟨t, ht, hl⟩ := h.own
 exact ⟨⟨t, ht.below (Below.refl _ _).drew, hl⟩, h.span.drew⟩
set_option maxRecDepth 100000 in
set_option maxHeartbeats 8000000 in
theorem spoil_any (base : Nat) (x : SV) (s : St) (w0 w : World) (h : OwnSt w0 base x s) (hb : Below w0.heap.size w0 w) (hz : Sz s) : Calls Tryz.prog 21 #[x.val s] w (fun e w' => e = .returned (.tuple #[]) ∧ Span base w0.heap.size w w') := by
 have HO := Lib.hid h
 have HZ := Lib.hid hz
 have hz1 := hz.p
 have hz2 := hz.c
 have hz3 := hz.z
 obtain ⟨T, hT⟩ : ∃ T, T = w0.heap.size := ⟨_, rfl⟩
 rw [← hT] at hb ⊢
 have HT := Lib.hid hT
 have HTW := Lib.hid (show T ≤ w.heap.size by rw [hT]; exact hb.size)
 obtain ⟨n, hn⟩ : ∃ n, n = s.players.length := ⟨_, rfl⟩
 obtain ⟨m, hm⟩ : ∃ m, m = s.cards.length := ⟨_, rfl⟩
 obtain ⟨l, hl⟩ : ∃ l, l = s.zones.length := ⟨_, rfl⟩
 rw [← hn] at hz1
 rw [← hm] at hz2
 rw [← hl] at hz3
 have HN := Lib.hid hn
 have HM := Lib.hid hm
 have HL := Lib.hid hl
 obtain ⟨cs, hcs⟩ : ∃ c, c = x.arr s := ⟨_, rfl⟩
 have HBX := Lib.hid (G.Blk.new w 27 cs)
 obtain ⟨w1, hw1⟩ : ∃ w1, w1 = w.alloc (.cells cs 27) := ⟨_, rfl⟩
 have HB1 := Lib.hid (show Below w.heap.size w w1 by rw [hw1]; exact G.bl_alloc (Below.refl _ _) _)
 rw [← hw1] at HBX
 have HC0 := Lib.hid (show cs[0]? = some (.slice x.pa n x.pc) by rw [hcs, hn]; rfl)
 have HC1 := Lib.hid (show cs[1]? = some (.slice x.ca m x.cc) by rw [hcs, hm]; rfl)
 have HC2 := Lib.hid (show cs[2]? = some (.slice x.za l x.zc) by rw [hcs, hl]; rfl)
 have he : x.val s = .agg cs := by rw [hcs]; rfl
 rw [he]
 obtain ⟨g, hg⟩ : ∃ g, g = w.heap.size := ⟨_, rfl⟩
 have HG := Lib.hid hg
 rw [← hg] at HBX
 have HBr := Lib.hid (fun W (hW : Span base T w1 W) => (show G.Blk W g 27 cs from hW.blk HBX.out (by have := HTW.out; omega)))
 have HI1 := Lib.hid (show SpI base T x s w1 w1 from ⟨⟨s, (h.below (by rw [← hT]; exact hb)).below HB1.out, rfl, rfl, rfl, fun _ => rfl⟩, Span.refl _ _ _⟩)
 have HPL := Lib.hid (fun q (hp : x.pa = some ⟨q, 0, none⟩) => (show base ≤ q ∧ q < T by rw [hT]; exact h.p.lt q (by rw [hp]; rfl)))
 have HCL := Lib.hid (fun q (hp : x.ca = some ⟨q, 0, none⟩) => (show base ≤ q ∧ q < T by rw [hT]; exact h.c.lt q (by rw [hp]; rfl)))
 have HRL := Lib.hid (fun i q k c (hi : i < s.zones.length) (hp : x.rows.getD i undef = .slice (some ⟨q, 0, none⟩) k c) => (show base ≤ q ∧ q < T by rw [hT]; exact (h.rows i hi).lt q (by rw [hp]; rfl)))
 clear h hz hb hT hn hm hl hcs he
 go_enter Tryz.func21, Tryz.ntmps21
 go_upto_region 1 with (fail)
 rw [← hw1, ← hg]
 clear hw1 hg
 go_wp2_with fail
 go_loopw [2] (fun i wr => ∃ q : Nat, q ≤ m ∧ i = .int .i64 q ∧ SpI base T x s w1 wr) (fun i _ => m - (intOf i).toNat)
 case atStart => exact ⟨0, Nat.zero_le _, rfl, HI1.out⟩
 case round =>
  clear HI1
  obtain ⟨q, hq, rfl, hin⟩ := hrel
  have HIN := Lib.hid hin
  have hq0 : (0 : Int) ≤ q := by omega
  have HBx := Lib.hid (HBr.out _ hin.span)
  have c1 := (HBx.out.cell 1).trans HC1.out
  have c0 := (HBx.out.cell 0).trans HC0.out
  have lx := HBx.out.lt
  clear hin
  by_cases hlt : q < m
  ·have hltI : (q : Int) < m := by omega
   obtain ⟨t, ht, hlen⟩ := HIN.out.own
   have hqt : q < t.cards.length := by rw [hlen.2.1, ← HM.out]; exact hlt
   obtain ⟨gc, cc, hcv, hgc, hnc, cur, hgg⟩ := G.own_addr ht.c (by omega)
   simp only [Value.slice.injEq, true_and] at hcv
   obtain ⟨hca, hcc⟩ := hcv
   have hc2 := ht.c
   rw [hca] at hc2 c1
   obtain ⟨b, off, e, hrv⟩ := (G.RdS.of_own hc2).2 (by omega)
   simp only [Option.some.injEq, Addr.mk.injEq, and_true] at e
   obtain ⟨rfl, rfl⟩ := e
   obtain ⟨y, hy⟩ : ∃ y, y = t.cards.getD q zeroCd := ⟨_, rfl⟩
   obtain ⟨d0, d1, d2, d3, d4, d5⟩ := cd_at hrv hqt hy.symm
   simp only [Nat.zero_add] at d0
   have hfr := hc2.frozenAt (q * 6)
   have hgl := World.block_lt_of_cell? _ _ d0
   have HSP := Lib.hid (HCL.out gc hca)
   have HNX := Lib.hid (fun v => show SpI base T x s w1 (wr.setCell ⟨gc, q * 6, none⟩ (.int .i64 v)) from ⟨⟨{ t with cards := t.cards.set q { y with kind := v } }, ht.cset (j := 0) (u := .int .i64 v) (y := { y with kind := v }) hca hqt (by omega) (by rw [hy]; rfl), hlen.1, by simp only [List.length_set]; exact hlen.2.1, hlen.2.2⟩, HIN.out.span.set HSP.out.1 HSP.out.2 _⟩)
   clear hca hcc hc2 hrv d1 d2 d3 d4 d5 hy ht hlen hgg hgc hnc
   go_wp2_with fail
   go_region
   go_wp2_with fail
   go_roundw
   case rel => exact ⟨q + 1, by omega, by go_num, (HNX.out _).drew⟩
   case measure => simp [intOf]; omega
  ·have hltI : ¬ (q : Int) < m := by omega
   go_wp2_with fail
   go_loopw [3] (fun i wr => ∃ q : Nat, q ≤ n ∧ i = .int .i64 q ∧ SpI base T x s w1 wr) (fun i _ => n - (intOf i).toNat)
   case atStart => exact ⟨0, Nat.zero_le _, rfl, HIN.out⟩
   case round =>
    clear HIN HBx c0 c1 lx
    obtain ⟨q2, hq2, rfl, hin⟩ := hrel
    have HIN := Lib.hid hin
    have hq20 : (0 : Int) ≤ q2 := by omega
    have HBx := Lib.hid (HBr.out _ hin.span)
    have c0 := (HBx.out.cell 0).trans HC0.out
    have c2 := (HBx.out.cell 2).trans HC2.out
    have lx := HBx.out.lt
    clear hin
    by_cases hlt2 : q2 < n
    ·have hltI2 : (q2 : Int) < n := by omega
     obtain ⟨t, ht, hlen⟩ := HIN.out.own
     have hqt : q2 < t.players.length := by rw [hlen.1, ← HN.out]; exact hlt2
     obtain ⟨gc, cc, hcv, hgc, hnc, cur, hgg⟩ := G.own_addr ht.p (by omega)
     simp only [Value.slice.injEq, true_and] at hcv
     obtain ⟨hca, hcc⟩ := hcv
     have hc2 := ht.p
     rw [hca] at hc2 c0
     obtain ⟨b, off, e, hrv⟩ := (G.RdS.of_own hc2).2 (by omega)
     simp only [Option.some.injEq, Addr.mk.injEq, and_true] at e
     obtain ⟨rfl, rfl⟩ := e
     obtain ⟨y, hy⟩ : ∃ y, y = t.players.getD q2 zeroPl := ⟨_, rfl⟩
     obtain ⟨d0, d1, d2⟩ := pl_at hrv hqt hy.symm
     simp only [Nat.zero_add] at d0
     have hfr := hc2.frozenAt (q2 * 3)
     have hgl := World.block_lt_of_cell? _ _ d0
     have HSP := Lib.hid (HPL.out gc hca)
     have HNX := Lib.hid (show SpI base T x s w1 (wr.setCell ⟨gc, q2 * 3, none⟩ (.int .i32 7)) from ⟨⟨{ t with players := t.players.set q2 { y with life := 7 } }, ht.pset (j := 0) (u := .int .i32 7) (y := { y with life := 7 }) hca hqt (by omega) (by rw [hy]; rfl), by simp only [List.length_set]; exact hlen.1, hlen.2⟩, HIN.out.span.set HSP.out.1 HSP.out.2 _⟩)
     clear hca hcc hc2 hrv d1 d2 hy ht hlen hgg hgc hnc
     go_wp2_with fail
     go_roundw
     case rel => exact ⟨q2 + 1, by omega, by go_num, HNX.out⟩
     case measure => simp [intOf]; omega
    ·have hltI2 : ¬ (q2 : Int) < n := by omega
     go_wp2_with fail
     go_loopw [4, 5] (fun i _ wr => ∃ q : Nat, q ≤ l ∧ i = .int .i64 q ∧ SpI base T x s w1 wr) (fun i _ _ => l - (intOf i).toNat)
     case atStart => exact ⟨0, Nat.zero_le _, rfl, HIN.out⟩
     case round =>
      clear HIN HBx c0 c2 lx
      obtain ⟨q3, hq3, rfl, hin⟩ := hrel
      have HIN := Lib.hid hin
      have hq30 : (0 : Int) ≤ q3 := by omega
      have HBx := Lib.hid (HBr.out _ hin.span)
      have c2 := (HBx.out.cell 2).trans HC2.out
      have lx := HBx.out.lt
      clear hin
      by_cases hlt3 : q3 < l
      ·have hltI3 : (q3 : Int) < l := by omega
       have hq3z : q3 < s.zones.length := by rw [← HL.out]; exact hlt3
       have hrl := HZ.out.r q3
       obtain ⟨k, hk⟩ : ∃ k, k = (s.zones.getD q3 []).length := ⟨_, rfl⟩
       rw [← hk] at hrl
       have HK := Lib.hid hk
       clear hk
       go_wp2_with fail
       go_loopw [5] (fun i wr => ∃ p : Nat, p ≤ k ∧ i = .int .i64 p ∧ SpI base T x s w1 wr) (fun i _ => k - (intOf i).toNat)
       case atStart => exact ⟨0, Nat.zero_le _, rfl, HIN.out⟩
       case round =>
        clear HIN HBx c2 lx
        obtain ⟨p, hp, rfl, hin⟩ := hrel
        have HIN := Lib.hid hin
        have hp0 : (0 : Int) ≤ p := by omega
        have HBx := Lib.hid (HBr.out _ hin.span)
        have c2 := (HBx.out.cell 2).trans HC2.out
        have lx := HBx.out.lt
        clear hin
        obtain ⟨t, ht, hlen⟩ := HIN.out.own
        have hqt : q3 < t.zones.length := by rw [hlen.2.2.1]; exact hq3z
        obtain ⟨bz, oz, hza, hcz⟩ := rows_at (G.RdS.of_own ht.z) hqt
        obtain ⟨ra, rk, hrv⟩ := G.own_shape (ht.rows q3 hqt)
        have hkt : (t.zones.getD q3 []).length = k := by rw [hlen.2.2.2, HK.out]
        rw [hrv, hkt] at hcz
        rw [hza] at c2
        have hbz := World.block_lt_of_cell? _ _ hcz
        by_cases hlt4 : p < k
        ·have hltI4 : (p : Int) < k := by omega
         have hro := ht.rows q3 hqt
         obtain ⟨gr, cr, hrv2, _⟩ := G.own_addr hro (by omega)
         rw [hrv] at hrv2
         simp only [Value.slice.injEq, true_and] at hrv2
         obtain ⟨rfl, rfl⟩ := hrv2
         rw [hrv] at hro
         obtain ⟨b, off, e, hrd⟩ := (G.RdS.of_own hro).2 (by omega)
         simp only [Option.some.injEq, Addr.mk.injEq, and_true] at e
         obtain ⟨rfl, rfl⟩ := e
         have d0 := i64_at hrd (k := p) (by rw [hkt]; exact hlt4)
         obtain ⟨y, hy⟩ : ∃ y, y = (t.zones.getD q3 []).getD p 0 := ⟨_, rfl⟩
         rw [← hy] at d0
         simp only [Nat.zero_add] at d0
         have hfr := hro.frozenAt p
         have hgl := World.block_lt_of_cell? _ _ d0
         have HSP := Lib.hid (HRL.out q3 gr _ _ hq3z hrv)
         have HNX := Lib.hid (fun v => show SpI base T x s w1 (wr.setCell ⟨gr, p, none⟩ (.int .i64 v)) from ⟨⟨_, ht.rset (k := p) (v := v) hqt hrv, hlen.row⟩, HIN.out.span.set HSP.out.1 HSP.out.2 _⟩)
         clear hrv hro hrd hy ht hlen hza hkt hqt
         go_wp2_with fail
         go_region
         go_wp2_with fail
         go_roundw
         case rel => exact ⟨p + 1, by omega, by go_num, (HNX.out _).drew⟩
         case measure => simp [intOf]; omega
        ·have hltI4 : ¬ (p : Int) < k := by omega
         clear ht hlen hrv hkt hza hqt
         go_wp2_with fail
         go_roundw
         case rel => exact ⟨q3 + 1, by omega, by go_num, HIN.out⟩
         case measure => simp [intOf]; omega
      ·have hltI3 : ¬ (q3 : Int) < l := by omega
       go_wp2_with fail
       go_returns
       exact ⟨rfl, Span.later HB1.out HIN.out.span⟩
end Go.Proofs.YtofgmijmhpmabaaGreatDoor.D
namespace Go.Proofs.YtofgmijmhpmabaaGreatDoor.D
open Go Go.RowKit
set_option linter.unusedVariables false
set_option linter.unusedSimpArgs false
/-- A world's first blocks. -/
def cutW (w : World) (n : Nat) : World := { w with heap := w.heap.extract 0 n }
theorem cutW_size {w : World} {n : Nat} (h : n ≤ w.heap.size) : (cutW w n).heap.size = n := by
 show (w.heap.extract 0 n).size = n
 rw [Array.size_extract]
 omega
theorem cutW_at {w : World} {n k : Nat} (hk : k < n) : (cutW w n).heap[k]? = w.heap[k]? := by
 show (w.heap.extract 0 n)[k]? = _
 rw [Array.getElem?_extract]
 by_cases h : k < w.heap.size
 ·rw [if_pos (by omega), Nat.zero_add]
 ·rw [if_neg (by omega), Array.getElem?_eq_none (by omega)]
theorem cutW_below {w : World} {n : Nat} (h : n ≤ w.heap.size) : Below (cutW w n).heap.size (cutW w n) w :=
 ⟨rfl, rfl, rfl, by rw [cutW_size h]; exact h, fun k hk => (cutW_at (by rw [cutW_size h] at hk; exact hk)).symm⟩
theorem own_cut {w : World} {n base e sz m : Nat} {v : Value} {xs : List Value} (ho : w.ownsRow base e sz v m xs) (hv : ∀ k, v.ownBlock = some k → k < n) : (cutW w n).ownsRow base e sz v m xs := by
 obtain ⟨h1, h2⟩ := ho
 refine ⟨h1, ?_⟩
 rcases h2 with hn | ⟨g, cap, cur, rfl, hbg, hg, rest⟩
 ·exact .inl hn
 ·exact .inr ⟨g, cap, cur, rfl, hbg, (cutW_at (hv g rfl)).trans hg, rest⟩
def zeroBag : Array Value := #[.slice none 0 0, .slice none 0 0, .slice none 0 0, .slice none 0 0, .slice none 0 0, .slice none 0 0, .slice none 0 0, .slice none 0 0, .slice none 0 0, .slice none 0 0, .slice none 0 0, .slice none 0 0, .slice none 0 0, .slice none 0 0, .slice none 0 0, .slice none 0 0, .slice none 0 0, .slice none 0 0, .slice none 0 0, .slice none 0 0, .slice none 0 0]
theorem zeroBag_b : Tryz.prog.built 64 [] = some zeroBag := by kernel_rfl
theorem zeroBag_at : ∀ i, i < 21 → zeroBag[i]? = some (.slice none 0 0) := by
 intro i hi
 have h : i = 0 ∨ i = 1 ∨ i = 2 ∨ i = 3 ∨ i = 4 ∨ i = 5 ∨ i = 6 ∨ i = 7 ∨ i = 8 ∨ i = 9 ∨ i = 10 ∨ i = 11 ∨ i = 12 ∨ i = 13 ∨ i = 14 ∨ i = 15 ∨ i = 16 ∨ i = 17 ∨ i = 18 ∨ i = 19 ∨ i = 20 := by omega
 rcases h with rfl | rfl | rfl | rfl | rfl | rfl | rfl | rfl | rfl | rfl | rfl | rfl | rfl | rfl | rfl | rfl | rfl | rfl | rfl | rfl | rfl <;> rfl
theorem span_bl {B T C : Nat} {w0 w w' : World} (h : Span B T w w') (hb : Below C w0 w) (hC : C ≤ B) (hw : C ≤ w.heap.size) : Below C w0 w' := ⟨h.os.trans hb.os, h.tape.trans hb.tape, h.output.trans hb.output, Nat.le_trans hb.size h.size, fun k hk => (h.block k (.inl (by omega)) (by omega)).trans (hb.block k hk)⟩
end Go.Proofs.YtofgmijmhpmabaaGreatDoor.D

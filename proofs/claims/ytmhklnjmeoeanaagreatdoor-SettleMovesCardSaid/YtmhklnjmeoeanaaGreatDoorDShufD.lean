/- The contracts of deed.Shuffle and deed.Out. Printed by gen_shufd.py. -/
import Derived.Test.YtmhklnjmeoeanaaGreatDoorDAskC
import Derived.Test.YtmhklnjmeoeanaaGreatDoorDRow
import Derived.Test.YtmhklnjmeoeanaaGreatDoorDOneEv
namespace Go.Proofs.YtmhklnjmeoeanaaGreatDoor.D
open Go Go.RowKit
set_option linter.unusedVariables false
set_option linter.unusedSimpArgs false
theorem askP_oneO {s : St} {ok : Prop} {l : List Ev} {w W : World} {y : EV} {ev : Ev} (h : May s) (ho : ok) (hl : l = [ev]) (he : OwnEv W w.heap.size y ev) (hb : Below w.heap.size w W) :
    AskPost s ok l w (.returned (.tuple #[.slice (some ⟨W.heap.size, 0, none⟩) 1 1, .int .i64 0])) (W.alloc (.cells (y.arr ev) 37)) := by
  refine ⟨_, 1, 1, [(y, ev)], 0, rfl, ⟨?_, fun i hi => ?_⟩, G.bl_alloc hb _, .inr (.inr ⟨rfl, h, ho, hl.symm⟩)⟩
  · have := World.ownsRow_lit (base := w.heap.size) (e := 37) (size := 12) W (y.arr ev) 1 hb.size (by unfold maxLen; omega) rfl
    have e1 : flatE [(y, ev)] = (y.arr ev).toList := by simp [flatE, cellsE]
    rw [e1]
    exact this
  · obtain rfl : i = 0 := by omega
    exact OwnEv.below he (G.bl_alloc (Below.refl _ _) _)
/-- slices.Clone of a list that is not empty. -/
def ClPost (order : List Int) (w : World) (e : Ending) (w' : World) : Prop := ∃ A3 c3, e = .returned (.slice A3 order.length c3) ∧ w'.ownsRow w.heap.size 3 1 (.slice A3 order.length c3) order.length (i64s order) ∧ Below w.heap.size w w'
def ShS (B : World) (p1 : Addr) (v1 : Value) (p2 : Addr) (v2 : Value) (w : World) : Prop := Below B.heap.size B w ∧ w.cell? p1 = some v1 ∧ w.cell? p2 = some v2
theorem ShS.below {B w w' : World} {p1 p2 : Addr} {v1 v2 : Value} (h : ShS B p1 v1 p2 v2 w) (hb : Below w.heap.size w w') : ShS B p1 v1 p2 v2 w' :=
  ⟨G.bl_trans h.1 hb, (hb.cell (p := p1) (World.block_lt_of_cell? _ _ h.2.1)).trans h.2.1, (hb.cell (p := p2) (World.block_lt_of_cell? _ _ h.2.2)).trans h.2.2⟩
theorem ShS.bl {B w : World} {p1 p2 : Addr} {v1 v2 : Value} (h : ShS B p1 v1 p2 v2 w) : Below B.heap.size B w := h.1
theorem order_pos {order : List Int} (h : ¬ Rises order) : 0 < order.length := by
  cases order with
  | nil => exact absurd rfl h
  | cons a l => simp
set_option maxRecDepth 100000 in
set_option maxHeartbeats 8000000 in
theorem outD_any (x : SV) (s : St) (p : Int) (w : World) (h : RdSt w x s) (hz : Sz s) :
    Calls Tryz.prog 78 #[x.val s, .int .i64 p] w (AskPost s (Within p s.players.length) (outEv s p) w) := by
  have HRF := Lib.hid (fun W f eg caps b (hW : Below w.heap.size w W) hk => refused_any x s W (h.below hW) hz f eg caps b hk)
  have HR := Lib.hid h
  have hz1 := hz.p
  have HQ := Lib.hid (fun gn g W h hn => askOut_any x s gn g p W h hn hz1)
  obtain ⟨fsS, hfsS⟩ := undSt
  have HFS := Lib.hid hfsS
  have HCS := Lib.hid (show (x.arr s)[0]? = some (.slice x.pa s.players.length x.pc) from rfl)
  obtain ⟨cs, hcs⟩ : ∃ c, c = x.arr s := ⟨_, rfl⟩
  have HS := Lib.hid (show cs.size = 7 by rw [hcs]; rfl)
  have he : x.val s = .agg cs := by rw [hcs]; rfl
  rw [he] at HRF ⊢
  rw [← hcs] at HCS HQ
  clear h hz hcs he hfsS
  have h1 : G.Blk ((w.alloc (.cells cs 27)).alloc (.cells #[.int .i64 p] 3)) w.heap.size 27 cs := heap_alloc2_old w (.cells cs 27) (.cells #[.int .i64 p] 3)
  have h2 : G.Blk ((w.alloc (.cells cs 27)).alloc (.cells #[.int .i64 p] 3)) (w.heap.size + 1) 3 #[.int .i64 p] := heap_alloc2_new w (.cells cs 27) (.cells #[.int .i64 p] 3)
  have hbl0 : Below w.heap.size w ((w.alloc (.cells cs 27)).alloc (.cells #[.int .i64 p] 3)) := G.bl_alloc (G.bl_alloc (Below.refl _ _) _) _
  go_enter Tryz.func78, Tryz.ntmps78
  go_upto_region 1 with (fail)
  obtain ⟨w0, hw0⟩ : ∃ w0, w0 = (w.alloc (.cells cs 27)).alloc (.cells #[.int .i64 p] 3) := ⟨_, rfl⟩
  rw [← hw0] at h1 h2 hbl0 ⊢
  clear hw0
  have HBL0 := Lib.hid hbl0
  obtain ⟨g, hg⟩ : ∃ g, g = w.heap.size := ⟨_, rfl⟩
  have HG := Lib.hid hg
  rw [← hg] at h1 h2 ⊢
  have HS0 := Lib.hid h1
  have HP0 := Lib.hid h2
  have HQ0 := Lib.hid (HRF.out w0 97 Tryz.call97 #[.pointer (some ⟨g + 1, 0, none⟩), .pointer (some ⟨g, 0, none⟩)] (withinB p s.players.length) hbl0 (fun _ W hW => HQ.out _ _ W (h1.below hW h1.lt) (h2.below hW h2.lt)))
  have l0 := h2.lt
  clear h1 h2 hbl0 hg
  go_wp2_with (refine wpList_load_row rfl 27 _ rfl g rfl _ cs (0, 0) _ HS0.out HFS.out rfl (by rw [HS.out]; exact sizeSt) ?_)
  refine (HQ0.out).mono ?_
  rintro e1 w1 hp1
  obtain ⟨k1, rfl, hb1, hk1⟩ := hp1
  have HBW1 := Lib.hid hb1
  have HBL1 := Lib.hid (G.bl_trans HBL0.out hb1)
  clear hb1
  rcases hk1 with ⟨rfl, hm⟩ | ⟨rfl, hm, hok⟩ | ⟨rfl, hm, hok⟩
  · have HM := Lib.hid hm
    clear hm
    go_wp2_with fail
    go_ret2
    exact askP_state HM.out HBL1.out
  · have HM := Lib.hid hm
    have HOK := Lib.hid (show ¬ (Within p s.players.length) by intro h; rw [within_yes h] at hok; cases hok)
    clear hm hok
    go_wp2_with fail
    go_ret2
    exact askP_arg HM.out HOK.out HBL1.out
  · have HM := Lib.hid hm
    have hok2 : Within p s.players.length := of_decide_eq_true hok
    have HOK := Lib.hid hok2
    obtain ⟨ho1, ho2⟩ := hok2
    obtain ⟨pk, rfl⟩ := Int.eq_ofNat_of_zero_le ho1
    obtain ⟨l, hl⟩ : ∃ l, l = s.players.length := ⟨_, rfl⟩
    rw [← hl] at HCS hz1 ho2
    have hpk : pk < l := by omega
    have HS1 := Lib.hid (HS0.out.below HBW1.out HS0.out.lt)
    have HP1 := Lib.hid (HP0.out.below HBW1.out HP0.out.lt)
    have c0 := HP1.out.cell 0
    have l1 := HP1.out.lt
    have s0 := (HS1.out.cell 0).trans HCS.out
    have l3 := HS1.out.lt
    obtain ⟨bp, op, hpa, hpr⟩ := (HR.out.p.below HBL1.out).2 (by rw [← hl]; omega)
    rw [hpa] at s0
    obtain ⟨_, _, pc2⟩ := pl_at hpr (k := pk) (by rw [← hl]; exact hpk) rfl
    have hbs := World.block_lt_of_cell? _ _ pc2
    obtain ⟨b, hb⟩ : ∃ b, b = (s.players.getD pk zeroPl).out := ⟨_, rfl⟩
    rw [← hb] at pc2
    have HB := Lib.hid hb
    clear hm hok ho1 hl hpa hpr hb
    cases b with
    | true =>
      have HNIL := Lib.hid (show outEv s (pk : Int) = [] from by unfold outEv; rw [Int.toNat_natCast, if_pos HB.out.symm])
      go_wp2_with fail
      go_ret2
      exact askP_none HM.out HOK.out HNIL.out HBL1.out
    | false =>
      have HONE := Lib.hid (show outEv s (pk : Int) = [{ zeroEv with kind := 5, player := (pk : Int) }] from by unfold outEv; rw [Int.toNat_natCast, if_neg (by rw [← HB.out]; simp)])
      go_wp2_with fail
      go_ret2
      exact askP_one (ev := { zeroEv with kind := 5, player := (pk : Int) }) HM.out HOK.out HONE.out rfl HBL1.out
end Go.Proofs.YtmhklnjmeoeanaaGreatDoor.D

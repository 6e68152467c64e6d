/- The contract of tableauref00.CopyEvents: a list of events of its own. -/
import Derived.Test.YtmhklnjmeoeanaaGreatDoorDCopySt
import Derived.Test.YtmhklnjmeoeanaaGreatDoorDMoveD
import Derived.Test.YtmhklnjmeoeanaaGreatDoorDOneEv
import Derived.Test.YtmhklnjmeoeanaaGreatDoorDBackI
namespace Go.Proofs.YtmhklnjmeoeanaaGreatDoor.D
open Go Go.RowKit
set_option linter.unusedVariables false
set_option linter.unusedSimpArgs false
theorem ownEvs_len {w : World} {base : Nat} {A : Option Addr} {n c : Nat} {E : List (EV × Ev)} (h : OwnEvs w base A n c E) : E.length = n := by
  have := h.s.1
  rw [flatE_length] at this
  omega
/-- An event is laid behind the others. -/
theorem OwnEvs.snoc {w w' : World} {base n c c' : Nat} {A A' : Option Addr} {L : List (EV × Ev)} {y : EV} {e : Ev} (h : OwnEvs w base A n c L) (ho : OwnEv w base y e) (hown : w'.ownsRow base 37 12 (.slice A' (n + 1) c') (n + 1) (flatE L ++ (y.arr e).toList))
    (hg : w.grownBy w' (Value.slice A n c).ownBlock) : OwnEvs w' base A' (n + 1) c' (L ++ [(y, e)]) := by
  have hl := ownEvs_len h
  refine ⟨?_, fun i hi => ?_⟩
  · have e1 : flatE (L ++ [(y, e)]) = flatE L ++ (y.arr e).toList := by simp [flatE, cellsE]
    rw [e1]
    exact hown
  · by_cases hi2 : i < n
    · have e2 : (L ++ [(y, e)]).getD i zeroP = L.getD i zeroP := by
        rw [List.getD_eq_getElem?_getD, List.getElem?_append_left (by omega), List.getD_eq_getElem?_getD]
      rw [e2]
      exact own_far (h.o i hi2) h.s hg (by decide)
    · obtain rfl : i = n := by omega
      have e2 : (L ++ [(y, e)]).getD i zeroP = (y, e) := by
        rw [List.getD_eq_getElem?_getD, List.getElem?_append_right (by omega), hl]
        simp
      rw [e2]
      exact own_far ho h.s hg (by decide)
def CEvsPost (E : List Ev) (w : World) (en : Ending) (w' : World) : Prop := ∃ A n c L, en = .returned (.slice A n c) ∧ OwnEvs w' w.heap.size A n c L ∧ L.map Prod.snd = E ∧ Below w.heap.size w w'
/-- What the loop keeps. -/
structure CEI (E : List Ev) (w : World) (k : Nat) (v : Value) (wr : World) : Prop where
  ex : ∃ A c L, v = .slice A k c ∧ OwnEvs wr w.heap.size A k c L ∧ L.map Prod.snd = E.take k
  bl : Below w.heap.size w wr
theorem CEI.next {E : List Ev} {w wr w1 w2 : World} {k : Nat} {A : Option Addr} {c : Nat} {L : List (EV × Ev)} {y : EV} {e : Ev} {v : Value} {ce : Array Value} (hown : OwnEvs wr w.heap.size A k c L) (hm : L.map Prod.snd = E.take k) (hbl : Below w.heap.size w wr)
    (hk : k < E.length) (he : E.getD k zeroEv = e) (ho : OwnEv w1 wr.heap.size y e) (hb : Below wr.heap.size wr w1) (hce : ce = y.arr e)
    (hr : w2.ownsRow w.heap.size 37 12 v (k + 1) (flatE L ++ ce.toList)) (hg : (w1.alloc (.cells ce 37)).grownBy w2 (Value.slice A k c).ownBlock) : CEI E w (k + 1) v w2 := by
  subst hce
  obtain ⟨A', c', rfl⟩ := G.own_shape hr
  have h1 : OwnEvs (w1.alloc (.cells (y.arr e) 37)) w.heap.size A k c L := (hown.below hb).below (G.bl_alloc (Below.refl _ _) _)
  have h2 : OwnEv (w1.alloc (.cells (y.arr e) 37)) w.heap.size y e := G.own_ge (G.own_below ho (G.bl_alloc (Below.refl _ _) _)) hbl.size
  refine ⟨⟨A', c', L ++ [(y, e)], ?_, h1.snoc h2 hr hg, ?_⟩, ?_⟩
  · rfl
  · rw [List.getD_eq_getElem?_getD, List.getElem?_eq_getElem hk] at he
    have he2 : E[k] = e := he
    rw [List.map_append, hm, ← List.take_append_getElem hk, he2]
    rfl
  · exact (G.bl_alloc (G.bl_trans hbl hb) _).grown hg (by have := hbl.size; have := hb.size; simp; omega) fun q hq => (h1.s.lt q hq).1
set_option maxRecDepth 100000 in
set_option maxHeartbeats 4000000 in
theorem copyEvents_any (A : Option Addr) (n c : Nat) (L : List (EV × Ev)) (w : World) (hl : RdEvs w A n L) (hn : n ≤ 33554432) (ho : ∀ k, k < n → (L.getD k zeroP).2.order.length ≤ 33554432) :
    Calls Tryz.prog 25 #[.slice A n c] w (CEvsPost (L.map Prod.snd) w) := by
  obtain ⟨iE, hiE, hzE0, hzE1, hzE2⟩ := info_parts infoEv
  have HL := Lib.hid hl
  have HO := Lib.hid ho
  have HN := Lib.hid hl.len
  obtain ⟨E, hE⟩ : ∃ E, E = L.map Prod.snd := ⟨_, rfl⟩
  have HEN := Lib.hid (show E.length = n by rw [hE, List.length_map]; exact hl.len)
  have HEA := Lib.hid (show ∀ k, E.getD k zeroEv = (L.getD k zeroP).2 from fun k => by rw [hE]; exact getD_snd L k)
  rw [← hE]
  have HIE := Lib.hid (And.intro hiE (And.intro hzE0 (And.intro hzE1 hzE2)))
  clear hl ho hE hiE hzE0 hzE1 hzE2
  go_enter Tryz.func25, Tryz.ntmps25
  go_wp2_with fail
  go_loopw [3, 4] (fun v i wr => ∃ k : Nat, k ≤ n ∧ i = .int .i64 k ∧ CEI E w k v wr) (fun _ i _ => n - (intOf i).toNat)
  case atStart => exact ⟨0, Nat.zero_le _, rfl, ⟨none, 0, [], rfl, OwnEvs.nil _ _, by simp⟩, Below.refl _ _⟩
  case round =>
    obtain ⟨k, hk, rfl, hri⟩ := hrel
    obtain ⟨⟨A0, c0, L0, rfl, how, hmp⟩, hbl⟩ := hri
    have HOW := Lib.hid how
    have HMP := Lib.hid hmp
    have HBL := Lib.hid hbl
    have hk0 : (0 : Int) ≤ k := by omega
    have HLr := Lib.hid (HL.out.below hbl)
    clear how hmp hbl
    by_cases hlt : k < n
    · have hkI : (k : Int) < n := by omega
      obtain ⟨b, off, hA, hbs, hrd, hre, _⟩ := ev_whole HLr.out hlt
      subst hA
      have hlen := HO.out k hlt
      obtain ⟨p, hp⟩ : ∃ p, p = L.getD k zeroP := ⟨_, rfl⟩
      rw [← hp] at hrd hre hlen
      have HEK := Lib.hid (show E.getD k zeroEv = p.2 by rw [HEA.out, hp])
      obtain ⟨ce, hce⟩ : ∃ ce, ce = p.1.arr p.2 := ⟨_, rfl⟩
      rw [← hce] at hrd
      have HRD := Lib.hid hrd
      have HCE := Lib.hid (copyEvent_any p.1 p.2 wr hre hlen)
      rw [show p.1.val p.2 = .agg ce by rw [hce]; rfl] at HCE
      clear hrd hre hlen hp hce
      go_wp2_with (first | (refine wpList_load_run (by rfl) 37 _ rfl b (off + k * 12) rfl ce HRD.out ?_) | ((with_reducible refine (HCE.out).mono ?_); rintro e1 w1 hp1; obtain ⟨y1, rfl, ho1, hb1⟩ := hp1; have HO1 := Lib.hid ho1; have HB1 := Lib.hid hb1; clear ho1 hb1; obtain ⟨cf, hcf⟩ : ∃ c, c = y1.arr p.2 := ⟨_, rfl⟩; have HCF := Lib.hid hcf; rw [show y1.val p.2 = .agg cf by rw [hcf]; rfl]; clear hcf) | (refine wpList_buildOne rfl 30 37 (.tmp 16) rfl cf rfl iE (.agg zeroE) Tryz.underlying30 HIE.out.1 HIE.out.2.1 (by rw [HIE.out.2.2.1]; decide) (by rw [HIE.out.2.2.1]; decide) (fill_evs HCF.out HIE.out.2.2.1) ?_) | (at_builtin; refine wpList_append_own _ rfl (.tmp 11) (.tmp 17) 30 rfl w.heap.size 37 iE (.agg zeroE) 12 96 Tryz.underlying30 HIE.out.1 HIE.out.2.1 HIE.out.2.2.1 HIE.out.2.2.2 rfl (by decide) _ k (flatE L0) rfl ((HOW.out.below HB1.out).s.alloc _) ⟨w1.heap.size, 0, none⟩ 1 1 cf.toList rfl (by rw [HCF.out]; rfl) (G.cells_new _ _ _ _ rfl) (by rw [HCF.out]; simp [EV.arr, Value.oneCell']) (by unfold maxLen; omega) (by omega) (by have := HBL.out.size; have := HB1.out.size; simp; omega) ?_; intro v3 w3 hown3 hg3 _q; have HI3 := Lib.hid (CEI.next HOW.out HMP.out HBL.out (by rw [HEN.out]; exact hlt) HEK.out HO1.out HB1.out HCF.out hown3 hg3); clear hown3 hg3))
      go_roundw
      case rel => exact ⟨k + 1, by omega, by go_num, HI3.out⟩
      case measure => simp [intOf]; omega
    · have hkI : ¬ (k : Int) < n := by omega
      obtain rfl : k = n := by omega
      go_wp2_with fail
      go_ret
      exact ⟨A0, k, c0, L0, rfl, HOW.out, by rw [HMP.out, List.take_of_length_le (by rw [HEN.out]; omega)], HBL.out⟩
end Go.Proofs.YtmhklnjmeoeanaaGreatDoor.D

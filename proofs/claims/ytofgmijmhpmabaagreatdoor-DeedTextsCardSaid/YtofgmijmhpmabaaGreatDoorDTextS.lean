/- The text of a shuffle: the contract of the closure that tells it. -/
import Derived.Test.YtofgmijmhpmabaaGreatDoorDTextC
namespace Go.Proofs.YtofgmijmhpmabaaGreatDoor.D
open Go Go.RowKit
set_option linter.unusedVariables false
set_option linter.unusedSimpArgs false
theorem run_cat {P : Program} (w : World) (x y : List UInt8) (h : x.length + y.length ≤ 9223372036854775807) :
    (Op.stringOp .add ⟨x.toArray⟩ ⟨y.toArray⟩).run P w = .ok (.string ⟨(x ++ y).toArray⟩) w := by
  rw [run_string_add_sum w ⟨x.toArray⟩ ⟨y.toArray⟩ h]
  have e : (⟨x.toArray⟩ : ByteArray) ++ ⟨y.toArray⟩ = ⟨(x ++ y).toArray⟩ := by
    apply ByteArray.ext
    simp
  rw [e]
def InR (i : Int) : Prop := -9223372036854775808 ≤ i ∧ i ≤ 9223372036854775807
def shW : List UInt8 := [115, 104, 117, 102, 102, 108, 101, 32]
/-- A shuffle's text, as far as the k-th number. -/
def shufP (src : Int) (order : List Int) (k : Nat) : List UInt8 := shW ++ Lib.itoa src ++ [58] ++ (order.take k).flatMap fun i => 32 :: Lib.itoa i
theorem shufP_next {src : Int} {order : List Int} {k : Nat} (h : k < order.length) : shufP src order (k + 1) = shufP src order k ++ ([32] ++ Lib.itoa (order.getD k 0)) := by
  unfold shufP
  rw [take_next h]
  simp
theorem flat_len (l : List Int) (h : ∀ i ∈ l, InR i) : (l.flatMap fun i => 32 :: Lib.itoa i).length ≤ 22 * l.length := by
  induction l with
  | nil => simp
  | cons a l ih =>
    have h1 := Lib.itoa_length_le a (h a (by simp)).1 (h a (by simp)).2
    have h2 := ih fun i hi => h i (by simp [hi])
    simp only [List.flatMap_cons, List.length_append, List.length_cons]
    omega
theorem shufP_len {src : Int} {order : List Int} {k : Nat} (hs : InR src) (h : ∀ i ∈ order, InR i) (hk : k ≤ 33554432) : (shufP src order k).length ≤ 800000000 := by
  have h1 := Lib.itoa_length_le src hs.1 hs.2
  have h2 := flat_len (order.take k) fun i hi => h i (List.mem_of_mem_take hi)
  have h3 : (order.take k).length ≤ 33554432 := by rw [List.length_take]; omega
  simp only [shufP, shW, List.length_append, List.length_cons, List.length_nil]
  omega
set_option maxRecDepth 100000 in
set_option maxHeartbeats 8000000 in
theorem text4_any (w : World) (y : EV) (e : Ev) (hf : e.Fits) (hr : RdEv w y e) (hl : e.order.length ≤ 33554432) (ho : ∀ i ∈ e.order, InR i) (hit : ItoaIn w) : Calls Tryz.prog 177 #[y.val e] w (StrPost (shufT e) w) := by
  have HIT := Lib.hid hit
  have HO := Lib.hid ho
  have HR := Lib.hid (show G.RdS w y.oa 1 e.order.length (i64s e.order) from hr)
  have hsrc : InR e.src := hf.src
  have HSRC := Lib.hid hsrc
  obtain ⟨ce, hce⟩ : ∃ ce, ce = y.arr e := ⟨_, rfl⟩
  obtain ⟨n, hn⟩ : ∃ n, n = e.order.length := ⟨_, rfl⟩
  have HN := Lib.hid hn
  obtain ⟨src, hs⟩ : ∃ src, src = e.src := ⟨_, rfl⟩
  have HFIN := Lib.hid (show shufT e = shufP src e.order n by unfold shufT shufP shW; rw [hs, hn, List.take_length])
  have hv : y.val e = .agg ce := by rw [hce]; rfl
  rw [hv]
  have c5 := (G.Blk.new w 30 ce).cell 5
  have c11 := (G.Blk.new w 30 ce).cell 11
  rw [show ce[5]? = some (.int .i64 src) by rw [hce, hs]; rfl] at c5
  rw [show ce[11]? = some (.slice y.oa n y.oc) by rw [hce, hn]; rfl] at c11
  have hlt := (G.Blk.new w 30 ce).lt
  have HB0 := Lib.hid (G.bl_alloc (Below.refl w.heap.size w) (.cells ce 30))
  rw [← hn] at HR hl
  rw [← hs] at HSRC
  generalize e.order = order at *
  generalize y.oa = A at *
  generalize y.oc = oc at *
  obtain ⟨w0, hw0⟩ : ∃ w0, w0 = w.alloc (.cells ce 30) := ⟨_, rfl⟩
  have HW0 := Lib.hid hw0
  rw [← hw0] at c5 c11 hlt HB0
  obtain ⟨g, hg⟩ : ∃ g, g = w.heap.size := ⟨_, rfl⟩
  have HGG := Lib.hid hg
  rw [← hg] at c5 c11 hlt
  have his := Lib.fresh_isBuilder 187 5 w0
  have hb0 := G.bl_alloc (Below.refl w0.heap.size w0) (.cells #[.pointer none, .slice none 0 0] 187)
  have hlt0 : w0.heap.size < (w0.alloc (.cells #[.pointer none, .slice none 0 0] 187)).heap.size := by simp
  have HIS := Lib.hid his
  have HB1 := Lib.hid hb0
  have HLT := Lib.hid hlt0
  clear hit ho hr hsrc hce hv hw0 hg his hb0 hlt0 hn hs hf
  go_enter Tryz.func177, Tryz.ntmps177
  go_upto_region 1 with (fail)
  rw [← HGG.out, ← HW0.out]
  go_upto_region 2 with (fail)
  obtain ⟨w1, hw1⟩ : ∃ w1, w1 = w0.alloc (.cells #[.pointer none, .slice none 0 0] 187) := ⟨_, rfl⟩
  rw [← hw1] at HIS HB1 HLT ⊢
  have d5 : w1.cell? ⟨g, 5, none⟩ = some (.int .i64 src) := (HB1.out.cell (p := ⟨g, 5, none⟩) hlt).trans c5
  have hltw := Nat.lt_of_lt_of_le hlt HB1.out.size
  have HI0 := Lib.hid (HIT.out src w1 HSRC.out.1 HSRC.out.2 (G.bl_trans HB0.out HB1.out))
  have h21 := Lib.itoa_length_le src HSRC.out.1 HSRC.out.2
  obtain ⟨P1, hP1⟩ : ∃ P, P = shW ++ Lib.itoa src := ⟨_, rfl⟩
  obtain ⟨P2, hP2⟩ : ∃ P, P = P1 ++ [58] := ⟨_, rfl⟩
  have hcat1 := fun W => run_cat (P := Tryz.prog) W [115, 104, 117, 102, 102, 108, 101, 32] (Lib.itoa src) (by simp; omega)
  have hl1 : P1.length ≤ 30 := by rw [hP1]; simp [shW]; omega
  have hcat2 := fun W => run_cat (P := Tryz.prog) W P1 [58] (by simp; omega)
  rw [← hP2] at hcat2
  rw [show [115, 104, 117, 102, 102, 108, 101, 32] ++ Lib.itoa src = P1 from hP1.symm] at hcat1
  have HP2 := Lib.hid (show P2 = shufP src order 0 by rw [hP2, hP1]; simp [shufP])
  have hl2 : P2.length ≤ 31 := by rw [hP2]; simp; omega
  have HL2 := Lib.hid hl2
  clear hP1 hP2 hl1 hl2
  clear hw1
  go_wp2_with fail
  refine (HI0.out).mono ?_
  rintro e2 w2 ⟨rfl, hb2⟩
  have HI2 := Lib.hid (isb_below HIS.out hb2)
  have HB2 := Lib.hid (G.bl_trans HB1.out hb2)
  have hlt2 := Nat.lt_of_lt_of_le HLT.out hb2.size
  have HLT2 := Lib.hid hlt2
  have HWS := Lib.hid (WriteString w0.heap.size w0.heap.size _ ⟨P2.toArray⟩ w2 HI2.out (by have := HL2.out; show 0 + P2.length ≤ _; omega) HB2.out.size)
  clear hb2 hlt2
  go_wp2_with fail
  refine (HWS.out).mono ?_
  rintro e3 w3 ⟨rfl, hb3, hb4, ho3⟩
  have HI3 := Lib.hid (show Lib.IsBuilder 187 5 w0.heap.size w0.heap.size (Lib.byteCells (shufP src order 0)) w3 from .inr (by rw [← HP2.out]; exact hb3))
  have HB3 := Lib.hid (HB2.out.trans hb4)
  have HLT3 := Lib.hid (Nat.lt_of_lt_of_le HLT2.out hb4.size)
  have d11 : w3.cell? ⟨g, 11, none⟩ = some (.slice A n oc) := (HB3.out.cell (p := ⟨g, 11, none⟩) hlt).trans c11
  have hltv := Nat.lt_of_lt_of_le hlt HB3.out.size
  clear hb3 hb4 ho3 hcat1 hcat2
  go_upto_region 4 with (fail)
  go_loopw [15] (fun i wr => ∃ k : Nat, k ≤ n ∧ i = .int .i64 k ∧ Below w0.heap.size w0 wr ∧ w0.heap.size < wr.heap.size ∧ Lib.IsBuilder 187 5 w0.heap.size w0.heap.size (Lib.byteCells (shufP src order k)) wr) (fun i _ => n - (intOf i).toNat)
  case atStart => exact ⟨0, Nat.zero_le _, rfl, HB3.out, HLT3.out, HI3.out⟩
  case round =>
    obtain ⟨k, hk, rfl, hbl, hltr, hisb⟩ := hrel
    have HBL := Lib.hid hbl
    have HISB := Lib.hid hisb
    have HLW := Lib.hid hltr
    have hk0 : (0 : Int) ≤ k := by omega
    clear hbl hisb hltr
    by_cases hkn : k < n
    · have hkI : (k : Int) < n := by omega
      obtain ⟨b, off, hA, hrv⟩ := (HR.out.below (G.bl_trans HB0.out HBL.out)).2 (by omega)
      subst hA
      have hc := i64_at hrv (k := k) (by rw [← HN.out]; exact hkn)
      obtain ⟨z, hz⟩ : ∃ z, z = order.getD k 0 := ⟨_, rfl⟩
      rw [← hz] at hc
      have hbs := World.block_lt_of_cell? _ _ hc
      have hzr : InR z := by rw [hz]; exact HO.out _ (mem_getD (by rw [← HN.out]; exact hkn))
      obtain ⟨z0, z1⟩ := hzr
      have h21 := Lib.itoa_length_le z z0 z1
      obtain ⟨Q, hQ⟩ : ∃ Q, Q = [32] ++ Lib.itoa z := ⟨_, rfl⟩
      have hcat3 := fun W => run_cat (P := Tryz.prog) W [32] (Lib.itoa z) (by simp; omega)
      rw [← hQ] at hcat3
      have HNX := Lib.hid (show shufP src order (k + 1) = shufP src order k ++ Q by rw [shufP_next (by rw [← HN.out]; exact hkn), hQ, hz])
      have HQL := Lib.hid (show Q.length ≤ 22 by rw [hQ]; simp; omega)
      have HPL := Lib.hid (shufP_len (src := src) (order := order) (k := k) HSRC.out HO.out (by omega))
      have HII := Lib.hid (HIT.out z wr z0 z1 (G.bl_trans HB0.out HBL.out))
      clear hrv hz hQ
      go_wp2_with fail
      refine (HII.out).mono ?_
      rintro e5 w5 ⟨rfl, hb5⟩
      have HI5 := Lib.hid (isb_below HISB.out hb5)
      have HB5 := Lib.hid (G.bl_trans HBL.out hb5)
      have HL5 := Lib.hid (Nat.lt_of_lt_of_le HLW.out hb5.size)
      have HWS := Lib.hid (WriteString w0.heap.size w0.heap.size _ ⟨Q.toArray⟩ w5 HI5.out (by rw [Lib.byteCells_length]; have := HPL.out; have h2 := HQL.out; show _ + Q.length ≤ _; omega) HB5.out.size)
      clear hb5
      go_wp2_with fail
      refine (HWS.out).mono ?_
      rintro e6 w6 ⟨rfl, hb6, hb7, ho6⟩
      have HI6 := Lib.hid (show Lib.IsBuilder 187 5 w0.heap.size w0.heap.size (Lib.byteCells (shufP src order (k + 1))) w6 from .inr (by rw [HNX.out, bc_app]; exact hb6))
      have HB6 := Lib.hid (HB5.out.trans hb7)
      have HL6 := Lib.hid (Nat.lt_of_lt_of_le HL5.out hb7.size)
      clear hb6 hb7 ho6
      go_wp2_with fail
      go_roundw
      case rel => exact ⟨k + 1, by omega, by go_num, HB6.out, HL6.out, HI6.out⟩
      case measure => simp [intOf]; omega
    · have hkI : ¬ (k : Int) < n := by omega
      obtain rfl : k = n := by omega
      have HSTR := Lib.hid (Tryz.Builder_String_any w0.heap.size w0.heap.size _ wr HISB.out HBL.out.size)
      go_wp2_with fail
      refine (HSTR.out).mono ?_
      rintro e7 w7 ⟨rfl, hb7⟩
      go_wp2_with fail
      go_ret
      exact ⟨str_ret HFIN.out.symm, G.bl_trans HB0.out (HBL.out.trans hb7)⟩
end Go.Proofs.YtofgmijmhpmabaaGreatDoor.D

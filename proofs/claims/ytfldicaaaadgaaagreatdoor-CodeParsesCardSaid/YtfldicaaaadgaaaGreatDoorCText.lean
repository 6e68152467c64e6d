/- The contract of code.Text of what Put does not refuse. -/
import Derived.Test.YtfldicaaaadgaaaGreatDoorCNum
import Derived.Test.YtfldicaaaadgaaaGreatDoorCShelf
import Derived.Deep.RegionHeld3
import Derived.Deep.RegionWith
import Derived.Deep.LoopGhost
import Derived.Lib.ItoaLen
namespace Go.Proofs.YtfldicaaaadgaaaGreatDoor.Code
open Go.RowKit
set_option linter.unusedVariables false
set_option linter.unusedSimpArgs false
def opsText (ns : List Int) : List UInt8 := ns.flatMap fun n => 32 :: Lib.itoa n
/-- The row of an instruction. -/
def rowText (x : Ins) : List UInt8 := Lib.itoa x.at_ ++ [32] ++ nameOf x.op ++ opsText (numsOf x (kindOf x.op)) ++ [10]
def textOf (l : List Ins) : List UInt8 := l.flatMap rowText
theorem name_table : table.all (fun r => decide (r.2.1.length ≤ 6)) = true := by decide +kernel
theorem name_le (op : Int) : (nameOf op).length ≤ 6 := by
  unfold nameOf rowOf
  cases h : table.find? (fun r => r.1 == op) with
  | none => simp
  | some r => simpa using List.all_eq_true.1 name_table r (List.mem_of_find?_eq_some h)
theorem PutOk.len : ∀ {l : List Ins} {p : Int}, 0 ≤ p → PutOk p l → l = [] ∨ p + l.length ≤ 65535
  | [], _, _, _ => .inl rfl
  | x :: l, p, hp, h => by
    obtain ⟨_, hx, hs, hl⟩ := h
    have h1 : 1 ≤ sizeOf x.op := by
      have := hx.len.1
      unfold encOf at this
      simp only [List.length_cons] at this
      omega
    refine .inr ?_
    rcases PutOk.len (by omega) hl with rfl | h2
    · simp; omega
    · simp only [List.length_cons]; omega
theorem numsOf_le (x : Ins) (k : Int) : (numsOf x k).length ≤ 3 := by
  unfold numsOf
  split
  · simp
  · split <;> simp
theorem RightI.nums {x : Ins} (h : RightI x) : ∀ m ∈ numsOf x (kindOf x.op), 0 ≤ m ∧ m < 100000 := by
  intro m hm
  unfold numsOf at hm
  rcases h with ⟨hk, h⟩ | ⟨hk, h⟩ | ⟨hk, h⟩ | ⟨hk, h⟩ <;> simp [hk] at hm
  · subst hm; omega
  · subst hm; omega
  · rcases hm with rfl | rfl | rfl <;> omega
theorem opsText_le : ∀ (ns : List Int), (∀ m ∈ ns, 0 ≤ m ∧ m < 100000) → (opsText ns).length ≤ 22 * ns.length
  | [], _ => by simp [opsText]
  | m :: ns, h => by
    have h1 := Lib.itoa_length_le m (by have := h m (by simp); omega) (by have := h m (by simp); omega)
    have h2 := opsText_le ns (fun q hq => h q (by simp [hq]))
    simp only [opsText, List.flatMap_cons, List.length_append, List.length_cons] at h2 ⊢
    omega
theorem rowText_le {x : Ins} (h : RightI x) (h0 : 0 ≤ x.at_) (h1 : x.at_ < 100000) : (rowText x).length ≤ 128 := by
  have a1 := Lib.itoa_length_le x.at_ (by omega) (by omega)
  have a2 := name_le x.op
  have a3 := opsText_le _ h.nums
  have a4 := numsOf_le x (kindOf x.op)
  simp only [rowText, List.length_append, List.length_cons, List.length_nil]
  omega
theorem textOf_le : ∀ (l : List Ins) (p : Int), 0 ≤ p → PutOk p l → (textOf l).length ≤ 128 * l.length
  | [], _, _, _ => by simp [textOf]
  | x :: l, p, hp, h => by
    obtain ⟨ha, hx, hs, hl⟩ := h
    have h1 : 1 ≤ sizeOf x.op := by
      have := hx.len.1
      unfold encOf at this
      simp only [List.length_cons] at this
      omega
    have h2 := textOf_le l _ (by omega) hl
    have h3 := rowText_le hx (by omega) (by omega)
    simp only [textOf, List.flatMap_cons, List.length_append, List.length_cons] at h2 ⊢
    omega
theorem PutOk.pre : ∀ {l l2 : List Ins} {p : Int}, PutOk p (l ++ l2) → PutOk p l
  | [], _, _, _ => trivial
  | x :: l, l2, p, h => ⟨h.1, h.2.1, h.2.2.1, PutOk.pre h.2.2.2⟩
theorem run_cat {P : Program} (w : World) (x y : List UInt8) (h : x.length + y.length ≤ 9223372036854775807) :
    (Op.stringOp .add ⟨x.toArray⟩ ⟨y.toArray⟩).run P w = .ok (.string ⟨(x ++ y).toArray⟩) w := by
  rw [run_string_add_sum w ⟨x.toArray⟩ ⟨y.toArray⟩ h]
  have e : (⟨x.toArray⟩ : ByteArray) ++ ⟨y.toArray⟩ = ⟨(x ++ y).toArray⟩ := by
    apply ByteArray.ext
    simp
  rw [e]
/-- strconv.Itoa in all worlds that follow one. -/
def ItoaIn (w : World) : Prop := ∀ (n : Int) (W : World), 0 ≤ n → n < 100000 → Below w.heap.size w W →
  Calls Tryz.prog 45 #[.int .i64 n] W fun e w' => e = .returned (.string ⟨(Lib.itoa n).toArray⟩) ∧ Below W.heap.size W w'
set_option maxRecDepth 100000 in
set_option maxHeartbeats 4000000 in
theorem Text_ok (b off cap : Nat) (l : List Ins) (w : World) (hm : l.length * 64 ≤ 140737488351232) (hr : RdV w b off (flat l)) (hz : PutOk 0 l) (hit : ItoaIn w) :
    Calls Tryz.prog 13 #[.slice (some ⟨b, off, none⟩) l.length cap] w fun e w' => e = .returned (.string ⟨(textOf l).toArray⟩) ∧ Below w.heap.size w w' := by
  have hsmall : ∀ pre suf, l = pre ++ suf → (textOf pre).length ≤ 8400000 := fun pre suf h => by
    subst h
    have h1 := textOf_le pre 0 (by omega) hz.pre
    rcases PutOk.len (by omega) hz.pre with rfl | h2
    · simp [textOf]
    · omega
  have HSM := Lib.hid hsmall
  clear hsmall
  have hP := Put_ok b off cap l w hm hr hz
  have HP := Lib.hid hP
  have HIT := Lib.hid hit
  obtain ⟨n, hn⟩ : ∃ n, n = l.length := ⟨_, rfl⟩
  have HN := Lib.hid hn
  rw [← hn]
  rw [← hn] at hm hP
  have HP := Lib.hid hP
  clear hn hP hit
  go_enter Tryz.func13, Tryz.ntmps13
  go_wp2_with (go_at_call 12; refine (HP.out).mono ?_; rintro e w1 ⟨v0, rfl, ho1, hb1⟩)
  have his := Lib.fresh_isBuilder 82 5 w1
  have hr1 := hr.below hb1
  have hb1w := hb1.size
  have h0lt : w1.heap.size < w1.heap.size + 1 := by omega
  go_loopw [23] (fun i wr => ∃ pre suf, l = pre ++ suf ∧ i = .int .i64 (pre.length : Nat) ∧ Below w1.heap.size w1 wr ∧ w1.heap.size < wr.heap.size ∧ PutOk (bytesOf pre).length suf ∧ Lib.IsBuilder 82 5 w1.heap.size w1.heap.size (Lib.byteCells (textOf pre)) wr)
    (fun i _ => n - (intOf i).toNat)
  case atStart => exact ⟨[], l, rfl, rfl, Bl.al (Below.refl _ _) _, by simp, hz, his⟩
  case round =>
    obtain ⟨pre, suf, hl, rfl, hbel, hlt1, hok, hisb⟩ := hrel
    cases suf with
    | nil =>
      have hnl : ¬ (pre.length : Nat) < n := by rw [HN.out, hl]; simp
      simp only [List.append_nil] at hl
      have HL := Lib.hid hl
      clear hl hr hr1 hok
      go_wp2_with (go_at_call 48; refine (Tryz.Builder_String_any _ _ _ _ hisb (by omega)).mono ?_; rintro e w2 ⟨rfl, hb2⟩)
      go_ret
      exact ⟨by rw [HL.out]; rfl, Bl.tr hb1 (hbel.trans hb2)⟩
    | cons x suf =>
      have hrw := (hr1.below (hbel.mono (by omega)))
      rw [hl] at hrw
      have hins := hrw.ins
      have hlt : (pre.length : Nat) < n := by rw [HN.out, hl]; simp
      obtain ⟨q1, q2, q3, q4⟩ := hok
      have hkind := q2.kind
      obtain ⟨k, hk⟩ : ∃ k, k = kindOf x.op := ⟨_, rfl⟩
      rw [← hk] at hkind
      have hx1 : x.at_ < 100000 := by
        have := q2.len.1
        unfold encOf at this
        simp only [List.length_cons] at this
        omega
      have Q4 := Lib.hid q4
      have Q2 := Lib.hid q2
      have Q1 := Lib.hid q1
      have HK := Lib.hid hk
      have HL := Lib.hid hl
      have HBEL := Lib.hid hbel
      have HISB := Lib.hid hisb
      clear hrw hr hr1 hl q1 q2 q4 q3 hk hbel hisb
      obtain ⟨xa, xo, a, b', c⟩ := x
      obtain ⟨c0, c1, c2, c3, c4⟩ := hins
      simp only at c0 c1 c2 c3 c4 hx1
      go_wp2_with (first
        | (go_at_call 40; refine (of_yes _ k _ HK.out.symm hkind).mono ?_; rintro e w2 ⟨rfl, hb2⟩; have hz2 := hb2.size; simp only [World.size_alloc] at hz2; have hzz : wr.heap.size < w2.heap.size := (by omega); have hX := blk_below (heap_alloc_new wr _) hb2))
      have hXb := blk_below hX (Bl.al (Below.refl _ w2) (.cells #[.string ⟨(nameOf xo).toArray⟩, .int .i64 k, .func (.func (fnOf k)) #[] #[]] 72))
      have hFb := heap_alloc_new w2 (.cells #[.string ⟨(nameOf xo).toArray⟩, .int .i64 k, .func (.func (fnOf k)) #[] #[]] 72)
      have hB2 : Below wr.heap.size wr (w2.alloc (.cells #[.string ⟨(nameOf xo).toArray⟩, .int .i64 k, .func (.func (fnOf k)) #[] #[]] 72)) := Bl.al (Bl.tr (Bl.al (Below.refl _ _) _) hb2) _
      have hs2 : w2.heap.size < (w2.alloc (.cells #[.string ⟨(nameOf xo).toArray⟩, .int .i64 k, .func (.func (fnOf k)) #[] #[]] 72)).heap.size := by simp
      generalize w2.alloc (.cells #[.string ⟨(nameOf xo).toArray⟩, .int .i64 k, .func (.func (fnOf k)) #[] #[]] 72) = W2 at *
      have HB2 := Lib.hid ((HBEL.out).trans (hB2.mono (by omega)))
      have HIS2 := Lib.hid (isb_below HISB.out hB2)
      generalize hX0 : wr.heap.size = X at *
      generalize hF0 : w2.heap.size = F at *
      have cx0 : W2.cell? ⟨X, 0, none⟩ = some (.int .i64 xa) := by rw [Lib.cell_of_heap hXb]; rfl
      have cf0 : W2.cell? ⟨F, 0, none⟩ = some (.string ⟨(nameOf xo).toArray⟩) := by rw [Lib.cell_of_heap hFb]; rfl
      have HXB := Lib.hid hXb
      have HFB := Lib.hid hFb
      have HI0 := Lib.hid (HIT.out xa)
      clear hX hb2 hB2 hX0 hF0 hz2 c0 c1 c2 c3 c4 hXb hFb
      have hsm := HSM.out _ _ HL.out
      have hx0 : 0 ≤ xa := by have := Q1.out; omega
      have HWB := Lib.hid (Bl.tr hb1 HB2.out)
      have hi21 := Lib.itoa_length_le xa (by omega) (by omega)
      have hn6 := name_le xo
      have hcat1 := fun W => run_cat (P := Tryz.prog) W (Lib.itoa xa) [32] (by simp; omega)
      have hcat2 := fun W => run_cat (P := Tryz.prog) W (Lib.itoa xa ++ [32]) (nameOf xo) (by simp; omega)
      have hlen : (Lib.byteCells (textOf pre)).length + ByteArray.size ⟨(Lib.itoa xa ++ 32 :: nameOf xo).toArray⟩ ≤ 140737488355328 := by
        rw [Lib.byteCells_length]
        show _ + (Lib.itoa xa ++ 32 :: nameOf xo).length ≤ _
        simp
        omega
      have HLEN := Lib.hid hlen
      clear hlen
      go_region_held3 (fun w' => w'.cell? ⟨X, 0, none⟩ = some (.int .i64 xa) ∧ w'.cell? ⟨F, 0, none⟩ = some (.string ⟨(nameOf xo).toArray⟩)) (go_keep) ((first | (go_at_call 45; refine (HI0.out _ hx0 hx1 (by exact HWB.out.drew)).mono ?_; rintro e w3 ⟨rfl, hb3⟩; have d0 : w3.cell? ⟨X, 0, none⟩ = some (.int .i64 xa) := (hb3.cell (p := ⟨X, 0, none⟩) (show X < W2.heap.size from by omega)).trans cx0; have d1 : w3.cell? ⟨F, 0, none⟩ = some (.string ⟨(nameOf xo).toArray⟩) := (hb3.cell (p := ⟨F, 0, none⟩) (show F < W2.heap.size from by omega)).trans cf0; have hs3 : W2.heap.size ≤ w3.heap.size := hb3.size) | (go_at_call 44; refine (WriteString w1.heap.size w1.heap.size _ _ _ (isb_below (w := W2.drew) HIS2.out hb3) HLEN.out (by omega)).mono ?_; rintro e w4 ⟨rfl, hbat, hb4, ho4⟩; have HX4 := Lib.hid (blk_kept (blk_below (w := W2.drew) HXB.out hb3) ho4 (show X ≠ w1.heap.size from by omega) (by decide)); have HF4 := Lib.hid (blk_kept (blk_below (w := W2.drew) HFB.out hb3) ho4 (show F ≠ w1.heap.size from by omega) (by decide)); have k0 : w4.cell? ⟨X, 0, none⟩ = some (.int .i64 xa) := (by rw [Lib.cell_of_heap HX4.out]; rfl); have k1 : w4.cell? ⟨F, 0, none⟩ = some (.string ⟨(nameOf xo).toArray⟩) := (by rw [Lib.cell_of_heap HF4.out]; rfl))))
      have HIS4 := Lib.hid (show Lib.IsBuilder 82 5 w1.heap.size w1.heap.size (Lib.byteCells (textOf pre ++ (Lib.itoa xa ++ 32 :: nameOf xo))) w4 from .inr (by
        have h1 := hbat
        rw [show Lib.strCells ⟨(Lib.itoa xa ++ 32 :: nameOf xo).toArray⟩ = Lib.byteCells (Lib.itoa xa ++ 32 :: nameOf xo) from rfl] at h1
        rw [show Lib.byteCells (textOf pre ++ (Lib.itoa xa ++ 32 :: nameOf xo)) = Lib.byteCells (textOf pre) ++ Lib.byteCells (Lib.itoa xa ++ 32 :: nameOf xo) from by simp [Lib.byteCells]]
        exact h1))
      have HB4 := Lib.hid (show Below w1.heap.size w1 w4 from (HB2.out.trans ((show Below W2.heap.size W2 w3 from ⟨hb3.os, hb3.tape, hb3.output, hb3.size, hb3.block⟩).mono (by omega))).trans hb4)
      have hs4 : W2.heap.size ≤ w4.heap.size := Nat.le_trans hs3 hb4.size
      clear hbat hb4 ho4 hb3 hs3 d0 d1 hcat1 hcat2 cx0 cf0
      clear HXB HFB HIS2 HWB HB2 HLEN HI0
      have k2 : w4.cell? ⟨X, 1, none⟩ = some (.int .u8 xo) := (by rw [Lib.cell_of_heap HX4.out]; rfl)
      have k3 : w4.cell? ⟨X, 2, none⟩ = some (.int .i64 a) := (by rw [Lib.cell_of_heap HX4.out]; rfl)
      have k4 : w4.cell? ⟨X, 3, none⟩ = some (.int .i64 b') := (by rw [Lib.cell_of_heap HX4.out]; rfl)
      have k5 : w4.cell? ⟨X, 4, none⟩ = some (.int .i64 c) := (by rw [Lib.cell_of_heap HX4.out]; rfl)
      have k6 : w4.cell? ⟨F, 1, none⟩ = some (.int .i64 k) := (by rw [Lib.cell_of_heap HF4.out]; rfl)
      have hnum := numbers_any ⟨xa, xo, a, b', c⟩ k w4
      unfold Ins.val at hnum
      simp only at hnum
      obtain ⟨ns, hns⟩ : ∃ ns, ns = numsOf ⟨xa, xo, a, b', c⟩ k := ⟨_, rfl⟩
      rw [← hns] at hnum
      have HNS := Lib.hid hns
      have HNUM := Lib.hid hnum
      clear hns hnum
      go_wp2_with fail
      refine HNUM.out.mono ?_
      rintro e w5 ⟨v5, rfl, ho5, hb5⟩
      obtain ⟨ao5, cp5, rfl⟩ := own_shape ho5
      have HO5 := Lib.hid ho5
      have HB5 := Lib.hid hb5
      have hs5 := hb5.size
      have HIS5 := Lib.hid (isb_below HIS4.out hb5)
      clear ho5 hb5 k0 k1 k2 k3 k4 k5 k6
      go_wp2_with fail
      obtain ⟨T0, hT0⟩ : ∃ T0, T0 = textOf pre ++ (Lib.itoa xa ++ 32 :: nameOf xo) := ⟨_, rfl⟩
      have HT0 := Lib.hid hT0
      have HIS6 := Lib.hid (show Lib.IsBuilder 82 5 w1.heap.size w1.heap.size (Lib.byteCells T0) w5 by rw [hT0]; exact HIS5.out)
      have hT0l : T0.length ≤ 8400100 := by rw [hT0]; simp; omega
      have HB6 := Lib.hid (HB4.out.trans (HB5.out.mono (by omega)))
      have hnsl : ns.length ≤ 3 := by rw [HNS.out]; exact numsOf_le _ _
      have HNR := Lib.hid (show ∀ m ∈ ns, 0 ≤ m ∧ m < 100000 from fun m hm => by
        have h1 := Q2.out.nums
        rw [HNS.out, HK.out] at hm
        exact h1 m hm)
      clear hT0 HIS4 HIS5 HX4 HF4 HNUM
      go_loopw [46] (fun i wq => ∃ j : Nat, j ≤ ns.length ∧ i = .int .i64 j ∧ wq.ownsRow w4.heap.size 3 1 (.slice ao5 ns.length cp5) ns.length (i64s ns) ∧ Below w1.heap.size w1 wq ∧ w1.heap.size < wq.heap.size ∧
          Lib.IsBuilder 82 5 w1.heap.size w1.heap.size (Lib.byteCells (T0 ++ opsText (ns.take j))) wq) (fun i _ => ns.length - (intOf i).toNat)
      case atStart => exact ⟨0, Nat.zero_le _, rfl, HO5.out, HB6.out, by omega, by simpa [opsText] using HIS6.out⟩
      case round =>
        obtain ⟨j, hj, rfl, hoq, hbq, hltq, hisq⟩ := hrel
        by_cases hjl : j < ns.length
        · obtain ⟨g, cap', hv, hc⟩ := own_cell hoq j hjl
          simp only [Value.slice.injEq] at hv
          obtain ⟨rfl, _, rfl⟩ := hv
          have hmem : ns.getD j 0 ∈ ns := by rw [List.getD_eq_getElem?_getD, List.getElem?_eq_getElem hjl]; exact List.getElem_mem hjl
          obtain ⟨hm0, hm1⟩ := HNR.out _ hmem
          have htk : opsText (ns.take (j + 1)) = opsText (ns.take j) ++ 32 :: Lib.itoa (ns.getD j 0) := by
            have e1 : ns.take (j + 1) = ns.take j ++ [ns.getD j 0] := by
              rw [List.take_succ_eq_append_getElem hjl, List.getD_eq_getElem?_getD, List.getElem?_eq_getElem hjl]; rfl
            rw [e1]
            unfold opsText
            rw [List.flatMap_append, List.flatMap_cons, List.flatMap_nil, List.append_nil]
          have hlo := opsText_le (ns.take j) (fun m hm => HNR.out m (List.mem_of_mem_take hm))
          have hlt3 : (ns.take j).length ≤ 3 := by have := List.length_take_le j ns; omega
          generalize hmv : ns.getD j 0 = m at *
          have hi21' := Lib.itoa_length_le m (by omega) (by omega)
          have hcat := fun W => run_cat (P := Tryz.prog) W [32] (Lib.itoa m) (by simp; omega)
          have hlen : (Lib.byteCells (T0 ++ opsText (ns.take j))).length + ByteArray.size ⟨(32 :: Lib.itoa m).toArray⟩ ≤ 140737488355328 := by
            rw [Lib.byteCells_length]
            show _ + (32 :: Lib.itoa m).length ≤ _
            simp
            omega
          have HLEN := Lib.hid hlen
          have HTK := Lib.hid htk
          have HIM := Lib.hid (HIT.out m)
          have HOQ := Lib.hid hoq
          have HBQ := Lib.hid hbq
          have HWQ := Lib.hid (Bl.tr hb1 hbq)
          have HISQ := Lib.hid hisq
          clear hlen htk hmv hoq hbq hisq
          go_wp2_with (first
            | (go_at_call 45; refine (HIM.out _ hm0 hm1 (by exact HWQ.out)).mono ?_; rintro e w6 ⟨rfl, hb6⟩; have hs6 := hb6.size)
            | (go_at_call 44; refine (WriteString w1.heap.size w1.heap.size _ _ _ (isb_below HISQ.out hb6) HLEN.out (by omega)).mono ?_; rintro e w7 ⟨rfl, hbat, hb7, ho7⟩))
          go_roundw
          case rel =>
            refine ⟨j + 1, by omega, by go_num, own_kept (Bl.own HOQ.out hb6) ho7 (by omega) (by decide), (HBQ.out.trans (hb6.mono (by omega))).trans hb7, by have := hb7.size; omega, .inr ?_⟩
            rw [HTK.out]
            have h1 := hbat
            rw [show Lib.strCells ⟨(32 :: Lib.itoa m).toArray⟩ = Lib.byteCells (32 :: Lib.itoa m) from rfl] at h1
            rw [show Lib.byteCells (T0 ++ (opsText (ns.take j) ++ 32 :: Lib.itoa m)) = Lib.byteCells (T0 ++ opsText (ns.take j)) ++ Lib.byteCells (32 :: Lib.itoa m) from by simp [Lib.byteCells]]
            exact h1
          case measure => simp [intOf]; omega
        · have hjn : j = ns.length := by omega
          have hlo := opsText_le ns (fun m hm => HNR.out m hm)
          have hisn : Lib.IsBuilder 82 5 w1.heap.size w1.heap.size (Lib.byteCells (T0 ++ opsText ns)) wr := by rw [hjn, List.take_length] at hisq; exact hisq
          have hlen : (Lib.byteCells (T0 ++ opsText ns)).length + 1 ≤ 140737488355328 := by
            rw [Lib.byteCells_length]
            simp
            omega
          have HLEN := Lib.hid hlen
          have HBQ := Lib.hid hbq
          clear hlen hjn hisq hbq hoq
          go_wp2_with (go_at_call 47; refine (WriteByte w1.heap.size w1.heap.size _ _ _ hisn HLEN.out (by omega)).mono ?_; rintro e w7 ⟨rfl, hbat, hb7, ho7⟩)
          go_roundw
          case rel =>
            refine ⟨pre ++ [⟨xa, xo, a, b', c⟩], suf, by rw [HL.out]; simp, by simp, HBQ.out.trans hb7, by have := hb7.size; omega, ?_, .inr ?_⟩
            · have e2 : (((bytesOf (pre ++ [⟨xa, xo, a, b', c⟩])).length : Nat) : Int) = ((bytesOf pre).length : Nat) + sizeOf xo := by
                rw [bytesOf_snoc, List.length_append]
                have := Q2.out.len.1
                unfold encOf at this
                simp only at this ⊢
                omega
              rw [e2]
              exact Q4.out
            · have h1 := hbat
              have e3 : textOf (pre ++ [⟨xa, xo, a, b', c⟩]) = T0 ++ opsText ns ++ [10] := by
                rw [HT0.out, HNS.out, HK.out]
                simp [textOf, rowText]
              rw [e3, show Lib.byteCells (T0 ++ opsText ns ++ [10]) = Lib.byteCells (T0 ++ opsText ns) ++ [.int .u8 10] from by simp [Lib.byteCells]]
              exact h1
          case measure => simp [intOf]; omega
end Go.Proofs.YtfldicaaaadgaaaGreatDoor.Code

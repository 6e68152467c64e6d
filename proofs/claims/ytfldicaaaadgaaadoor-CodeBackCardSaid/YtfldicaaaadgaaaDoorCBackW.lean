/- The law CodeBack answers true. -/
import Derived.Test.YtfldicaaaadgaaaDoorCOwn
import Derived.Test.YtfldicaaaadgaaaDoorCBackP
import Derived.Test.YtfldicaaaadgaaaDoorCEq
import Derived.Test.YtfldicaaaadgaaaDoorEqInt
import Derived.Deep.RegionHeld3
namespace Go.Proofs.YtfldicaaaadgaaaDoor.Code
open Go Go.RowKit
set_option linter.unusedVariables false
set_option linter.unusedSimpArgs false
def BackP (w : World) (e : Ending) (w' : World) : Prop := e = .returned (.bool true) ∧ Below w.heap.size w w'
theorem itoa_later {w w' : World} (h : ItoaIn w) (hb : Below w.heap.size w w') : ItoaIn w' := fun n W h0 h1 hb2 => h n W h0 h1 (Bl.tr hb hb2)
theorem All_zero (A : Option Addr) (c : Nat) (w : World) : Calls Tryd.prog 12 #[.slice A 0 c] w (AllPost [] w) := by
  go_enter Tryd.func12, Tryd.ntmps12
  go_wp2
  go_rounds 1
  go_ret3
  exact ⟨_, rfl, World.ownsRow_nil _ _ _ _, Below.refl _ _⟩
theorem rdI_of {w : World} {b o : Nat} {zs : List Int} (h : G.RdV w b o (u8s zs)) : RdI w .u8 b o zs := ⟨h.1, fun j hj => by
  rw [h.2 j (by rw [u8s_length]; exact hj)]
  unfold u8s
  rw [List.getD_eq_getElem?_getD, List.getElem?_map, List.getElem?_eq_getElem hj, List.getD_eq_getElem?_getD, List.getElem?_eq_getElem hj]
  rfl⟩
theorem All_rd {w : World} {A : Option Addr} {c : Nat} {zs : List Int} (hr : G.RdS w A 1 zs.length (u8s zs)) (hz : IsBytes zs) (hc : zs.length ≤ c) (hcm : c ≤ maxLen) (hm : zs.length ≤ 1073741824) : Calls Tryd.prog 12 #[.slice A zs.length c] w (AllPost zs w) := by
  rcases Nat.eq_zero_or_pos zs.length with h0 | h0
  · obtain rfl := List.eq_nil_of_length_eq_zero h0
    exact All_zero A c w
  · obtain ⟨b, o, rfl, hv⟩ := hr.2 h0
    exact All_any b o c zs w (by unfold maxLen at hcm; omega) (by omega) hc (rdI_of hv) hz
theorem name_ne {op : Int} (h0 : 0 ≤ op) (h1 : op < 256) (hk : 0 ≤ kindOf op) : nameOf op ≠ [] := by
  have key : ∀ n : Fin 256, 0 ≤ kindOf (n.val : Int) → (nameOf (n.val : Int)).isEmpty = false := by decide +kernel
  obtain ⟨m, rfl⟩ := Int.eq_ofNat_of_zero_le h0
  have := key ⟨m, by omega⟩ hk
  intro e
  rw [e] at this
  cases this
theorem pre_u8 (b o n c p : Nat) (hp : p ≤ c) : ∀ W, (Instr.slice 22 (.slice (some ⟨b, o, none⟩) n c) none (some (.int .i64 (p : Int))) none).run Tryd.prog W = .ok (.slice (some ⟨b, o, none⟩) p c) W := fun W => by
  have ht' : Tryd.prog.underlying 22 = some (.slice (Tryd.prog.elem 22)) := by simp [Program.elem, Tryd.underlying22]
  have he : Tryd.prog.elem 22 = 5 := by simp [Program.elem, Tryd.underlying22]
  have hsz : ∀ W, (Go.sizeOf 5).run Tryd.prog W = .ok 1 W := fun W => by kernel_rfl
  rw [run_slice_h W 22 _ _ _ ht' .i64 p (by omega) (by omega), he, hsz]
  simp [Result.andThen, sliced, Addr.add]
theorem pre_ins (g n c p : Nat) (hp : p ≤ c) : ∀ W, (Instr.slice 30 (.slice (some ⟨g, 0, none⟩) n c) none (some (.int .i64 (p : Int))) none).run Tryd.prog W = .ok (.slice (some ⟨g, 0, none⟩) p c) W := fun W => by
  have ht' : Tryd.prog.underlying 30 = some (.slice (Tryd.prog.elem 30)) := by simp [Program.elem, Tryd.underlying30]
  have he : Tryd.prog.elem 30 = 26 := by simp [Program.elem, Tryd.underlying30]
  have hsz : ∀ W, (Go.sizeOf 26).run Tryd.prog W = .ok 5 W := fun W => by kernel_rfl
  rw [run_slice_h W 30 _ _ _ ht' .i64 p (by omega) (by omega), he, hsz]
  simp [Result.andThen, sliced, Addr.add]
theorem pre_rd {W : World} {g m : Nat} {l : List Ins} (h : RdV W g 0 (flat l)) (hm : m < l.length) : G.RdS W (some ⟨g, 0, none⟩) 5 (l.take m).length (flat (l.take m)) := by
  refine ⟨flat_length _, fun _ => ⟨g, 0, rfl, h.1, fun i hi => ?_⟩⟩
  have e : flat l = flat (l.take m) ++ flat (l.drop m) := by
    unfold flat
    rw [← List.flatMap_append, List.take_append_drop]
  have h3 := h.2 i (by rw [e, List.length_append]; omega)
  rw [h3, e, List.getD_eq_getElem?_getD, List.getElem?_append_left hi, List.getD_eq_getElem?_getD]
/-- The cells of an instruction in the list, and of the one that was read. -/
def CellsB (W : World) (gl j q : Nat) (xo x1 x2 x3 : Int) (X : Nat) : Prop :=
  W.cell? ⟨gl, j * 5, none⟩ = some (.int .i64 (q : Int)) ∧ W.cell? ⟨gl, j * 5 + 1, none⟩ = some (.int .u8 xo) ∧ W.cell? ⟨gl, j * 5 + 2, none⟩ = some (.int .i64 x1) ∧ W.cell? ⟨gl, j * 5 + 3, none⟩ = some (.int .i64 x2) ∧ W.cell? ⟨gl, j * 5 + 4, none⟩ = some (.int .i64 x3) ∧
  W.cell? ⟨X, 0, none⟩ = some (.int .i64 (q : Int)) ∧ W.cell? ⟨X, 1, none⟩ = some (.int .u8 xo) ∧ W.cell? ⟨X, 2, none⟩ = some (.int .i64 x1) ∧ W.cell? ⟨X, 3, none⟩ = some (.int .i64 x2) ∧ W.cell? ⟨X, 4, none⟩ = some (.int .i64 x3)
theorem backCells {w9 wX W : World} {gl j q : Nat} {xo x1 x2 x3 : Int} {X : Nat} (hgl : gl < w9.heap.size)
    (hz : w9.cell? ⟨gl, j * 5, none⟩ = some (.int .i64 (q : Int)) ∧ w9.cell? ⟨gl, j * 5 + 1, none⟩ = some (.int .u8 xo) ∧ w9.cell? ⟨gl, j * 5 + 2, none⟩ = some (.int .i64 x1) ∧ w9.cell? ⟨gl, j * 5 + 3, none⟩ = some (.int .i64 x2) ∧ w9.cell? ⟨gl, j * 5 + 4, none⟩ = some (.int .i64 x3))
    (h9 : Below w9.heap.size w9 wX) (hb : G.Blk wX X 26 #[.int .i64 (q : Int), .int .u8 xo, .int .i64 x1, .int .i64 x2, .int .i64 x3]) (hW : Below wX.heap.size wX W) : CellsB W gl j q xo x1 x2 x3 X := by
  have h9W := Bl.tr h9 hW
  have hb2 := hb.below hW hb.lt
  have k : ∀ o v, w9.cell? ⟨gl, o, none⟩ = some v → W.cell? ⟨gl, o, none⟩ = some v := fun o v h => (h9W.cell (p := ⟨gl, o, none⟩) hgl).trans h
  exact ⟨k _ _ hz.1, k _ _ hz.2.1, k _ _ hz.2.2.1, k _ _ hz.2.2.2.1, k _ _ hz.2.2.2.2, hb2.cell 0, hb2.cell 1, hb2.cell 2, hb2.cell 3, hb2.cell 4⟩
set_option maxRecDepth 100000 in
set_option maxHeartbeats 8000000 in
theorem back_walk (A : Option Addr) (ca : Nat) (zs : List Int) (w : World) (hca : ca ≤ maxLen) (hnc : zs.length ≤ ca) (hr : G.RdS w A 1 zs.length (u8s zs)) (hz : IsBytes zs) (hit : ItoaIn w) (hL : LibP w) :
    Calls Tryd.prog 7 #[.slice A zs.length ca] w (BackP w) := by
  have HR := Lib.hid (fun W (h : Below w.heap.size w W) => hr.below h)
  have HZ := Lib.hid hz
  have HL := Lib.hid hL
  have HIT := Lib.hid hit
  have HCA := Lib.hid hca
  have HNC := Lib.hid hnc
  obtain ⟨n, hn⟩ : ∃ n, n = zs.length := ⟨_, rfl⟩
  have HN := Lib.hid hn
  rw [← hn]
  clear hr hz hit hL hca hnc hn
  unfold BackP
  go_enter Tryd.func7, Tryd.ntmps7
  go_wp2_with fail
  refine (works_any w HIT.out).mono ?_
  rintro e w1 ⟨rfl, hb1⟩
  have HB1 := Lib.hid hb1
  clear hb1
  by_cases hbig : 65535 < n
  · have hbI : (65535 : Int) < n := by omega
    go_wp2_with fail
    go_ret
    exact ⟨rfl, HB1.out⟩
  · have hbI : ¬ (65535 : Int) < n := by omega
    have c2 := All_rd (HR.out w1 HB1.out) HZ.out HNC.out HCA.out (by rw [← HN.out]; omega)
    rw [← HN.out] at c2
    unfold AllPost at c2
    rcases allOf_cases HZ.out (by rw [← HN.out]; omega) with ⟨p, er, hall, hp, her⟩ | ⟨l, hall, hput, hby, hops⟩
    · rw [hall] at c2
      simp only at c2
      have HC2 := Lib.hid c2
      rw [← HN.out] at hp
      have hpI : (p : Int) < n := by omega
      clear hall c2
      go_wp2_with fail
      refine HC2.out.mono ?_
      rintro e w2 ⟨v2, rfl, ho2, hb2⟩
      obtain ⟨a2, k2, rfl⟩ := G.own_shape ho2
      have HB2 := Lib.hid (Bl.tr HB1.out hb2)
      clear ho2 hb2 HC2
      rcases her with rfl | rfl
      all_goals
        go_wp2_with fail
        go_ret
        exact ⟨rfl, HB2.out⟩
    · rw [hall] at c2
      simp only at c2
      have HC2 := Lib.hid c2
      have HPUT := Lib.hid hput
      have HOPS := Lib.hid hops
      have HBY := Lib.hid hby
      have hln : l = [] ∨ 0 + l.length ≤ (65535 : Int) := hput.len (Int.le_refl 0)
      have hl65 : l.length ≤ 65535 := by
        rcases hln with rfl | h
        · simp
        · omega
      clear hall c2 hput hops hby hln
      go_wp2_with fail
      refine HC2.out.mono ?_
      rintro e w2 ⟨vl, rfl, hol, hb2⟩
      obtain ⟨al, cl, rfl⟩ := G.own_shape hol
      have HOL := Lib.hid (fun W (h : Below w2.heap.size w2 W) => Bl.own hol h)
      have HB2 := Lib.hid (Bl.tr HB1.out hb2)
      clear hb2 HC2 hol
      have c3 := Put_own (HOL.out w2 (Below.refl _ _)) (by omega) HOPS.out
      unfold PutAPost at c3
      rw [putOf_put HOPS.out HPUT.out, HBY.out] at c3
      simp only at c3
      have HC3 := Lib.hid c3
      clear c3
      go_wp2_with fail
      refine HC3.out.mono ?_
      rintro e w3 ⟨vb, rfl, hob, hb3⟩
      obtain ⟨ab, cb, rfl⟩ := G.own_shape hob
      have HOB := Lib.hid hob
      have HB23 := Lib.hid hb3
      rw [← HN.out] at HOB ⊢
      clear hob hb3 HC3
      go_wp2_with fail
      refine (Text_own (HOL.out w3 HB23.out) (by omega) HPUT.out (itoa_later HIT.out (Bl.tr HB2.out HB23.out))).mono ?_
      rintro e w4 ⟨rfl, hb4⟩
      have HB24 := Lib.hid (Bl.tr HB23.out hb4)
      have HOB4 := Lib.hid (Bl.own HOB.out hb4)
      have htl := textOf_le l 0 (Int.le_refl 0) HPUT.out
      have HTO := Lib.hid (HPUT.out.told (Int.le_refl 0) (by omega) HOPS.out)
      have HPA := Lib.hid (parse_text HTO.out (by rw [putOf_put HOPS.out HPUT.out]))
      obtain ⟨T, hT⟩ : ∃ T : ByteArray, T = ⟨(textOf l).toArray⟩ := ⟨_, rfl⟩
      have hTs : T.size ≤ 8400000 := by rw [hT]; show (textOf l).length ≤ _; omega
      have HTD := Lib.hid (show T.data.toList = textOf l by rw [hT])
      have HTT := Lib.hid (show (⟨(textOf l).toArray⟩ : ByteArray) = T from hT.symm)
      rw [← hT]
      clear hb4 hT htl
      have c5 := parse_any T w w4 (by omega) HL.out (Bl.tr HB2.out HB24.out)
      unfold ParseP at c5
      rw [HTD.out, HPA.out] at c5
      simp only at c5
      have HC5 := Lib.hid c5
      clear c5
      go_wp2_with fail
      refine HC5.out.mono ?_
      rintro e w5 ⟨vk, rfl, hok, hb5⟩
      obtain ⟨ak, ck, rfl⟩ := G.own_shape hok
      have HB25 := Lib.hid (Bl.tr HB24.out hb5)
      have HOB5 := Lib.hid (Bl.own HOB4.out hb5)
      have HOK := Lib.hid (fun W (h : Below w5.heap.size w5 W) => Bl.own hok h)
      clear hok hb5 HC5
      go_wp2_with fail
      have c6 := G.eqBytes_any ab A n n cb ca zs zs w5 (G.RdS.of_own HOB5.out) (by rw [HN.out]; exact HR.out w5 (Bl.tr HB2.out HB25.out)) (by unfold maxLen; omega) (by unfold maxLen; omega)
      rw [decide_eq_true rfl] at c6
      refine c6.mono ?_
      rintro e w6 ⟨rfl, q6, hw6⟩
      have HB56 := Lib.hid (show Below w5.heap.size w5 w6 by rw [hw6]; exact Bl.dn (Below.refl _ _) _)
      clear c6 hw6
      go_wp2_with fail
      have c7 := eqInstrs_any ak al l.length l.length ck cl l l w6 (G.RdS.of_own (HOK.out w6 HB56.out)) (G.RdS.of_own (HOL.out w6 (Bl.tr HB25.out HB56.out))) (by unfold maxLen; omega) (by unfold maxLen; omega)
      rw [decide_eq_true rfl] at c7
      refine c7.mono ?_
      rintro e w7 ⟨rfl, q7, hw7⟩
      have HB57 := Lib.hid (Bl.tr HB56.out (show Below w6.heap.size w6 w7 by rw [hw7]; exact Bl.dn (Below.refl _ _) _))
      clear c7 hw7
      go_wp2_with fail
      refine (Text_own (HOK.out w7 HB57.out) (by omega) HPUT.out (itoa_later HIT.out (Bl.tr (Bl.tr HB2.out HB25.out) HB57.out))).mono ?_
      rintro e w8 ⟨rfl, hb8⟩
      rw [HTT.out]
      have HB28 := Lib.hid (Bl.tr (Bl.tr HB25.out HB57.out) hb8)
      clear hb8
      go_wp2_with fail
      go_loopw [14, 15] (fun pl i wr => ∃ j : Nat, i = .int .i64 j ∧ j ≤ l.length ∧ pl = .int .i64 ((bytesOf (l.take j)).length : Int) ∧ Below w8.heap.size w8 wr) (fun _ i _ => l.length - (intOf i).toNat)
      case atStart => exact ⟨0, rfl, Nat.zero_le _, by simp [bytesOf], Below.refl _ _⟩
      case round =>
        obtain ⟨j, rfl, hj, rfl, hb⟩ := hrel
        have HB := Lib.hid (Bl.tr HB28.out hb)
        have HB8r := Lib.hid hb
        clear hb
        by_cases hlt : j < l.length
        · have hjI : (j : Int) < l.length := by omega
          obtain ⟨hat, hri⟩ := HPUT.out.nth hlt
          have hbs := bytes_split l hlt
          have hbt := bytes_take hlt
          have hxo := HOPS.out l[j] (List.getElem_mem hlt)
          have hgx : l.getD j zeroIns = l[j] := by rw [List.getD_eq_getElem?_getD, List.getElem?_eq_getElem hlt]; rfl
          obtain ⟨x, hx⟩ : ∃ x, x = l[j] := ⟨_, rfl⟩
          rw [← hx] at hat hri hbs hbt hxo hgx
          rw [Int.zero_add] at hat
          have hrx : readAt zs x.at_ = (x, 0) := by
            rw [← HBY.out, hbs, hat]
            exact readAt_enc hri hat
          have hql : (bytesOf (l.take j)).length + (encOf x).length ≤ n := by
            have h := congrArg List.length hbs
            rw [HBY.out, List.length_append, List.length_append, ← HN.out] at h
            omega
          have hsl := hri.len.1
          have hkx := hri.kind
          have hep : 1 ≤ (encOf x).length := by simp [encOf]
          obtain ⟨q, hq⟩ : ∃ q, q = (bytesOf (l.take j)).length := ⟨_, rfl⟩
          rw [← hq] at hat hql hbt ⊢
          have HBT := Lib.hid (show (bytesOf (l.take (j + 1))).length = q + (encOf x).length from hbt)
          obtain ⟨gl, kl, hv, hrd, _, _⟩ := own_rdV (HOL.out wr HB.out) (by omega)
          simp only [Value.slice.injEq, true_and] at hv
          obtain ⟨rfl, rfl⟩ := hv
          have HRD := Lib.hid (fun W (h : Below wr.heap.size wr W) => (hrd.below h : RdV W gl 0 (flat l)))
          obtain ⟨bA, oA, rfl, hrA⟩ := (HR.out wr (Bl.tr HB2.out HB.out)).2 (by rw [← HN.out]; omega)
          have HRC := Lib.hid (Read_any bA oA ca zs x.at_ wr (by have := HCA.out; unfold maxLen at this; omega) HNC.out (rdI_of hrA) HZ.out)
          rw [hrx, ← HN.out] at HRC
          have HGX := Lib.hid hgx
          have HXO := Lib.hid hxo
          have HSL := Lib.hid hsl
          have hlz := hrd.1
          obtain ⟨z0, z1, z2, z3, z4⟩ := ins_at ⟨hrd.1, hrd.2⟩ hlt hgx
          clear hrx hbs hbt hri hrd hrA hx hq hgx hsl
          obtain ⟨xa, xo, x1, x2, x3⟩ := x
          simp only at hat hxo hkx z0 z1 z2 z3 z4
          subst hat
          simp only [Nat.zero_add] at z0 z1 z2 z3 z4
          unfold Ins.val at HRC
          simp only at HRC
          have hqI : (q : Int) < n := by omega
          go_wp2_with fail
          refine HRC.out.mono ?_
          rintro e w9 ⟨rfl, hb9⟩
          have HB9 := Lib.hid (Bl.tr HB8r.out hb9)
          have hzz := ins_at ⟨(HRD.out w9 hb9).1, (HRD.out w9 hb9).2⟩ hlt HGX.out
          simp only [Nat.zero_add] at hzz
          have HZ9 := Lib.hid hzz
          clear hb9 hzz z0 z1 z2 z3 z4
          go_upto_region 17 with (fail)
          obtain ⟨X, hX⟩ : ∃ X, X = w9.heap.size := ⟨_, rfl⟩
          obtain ⟨wX, hwX⟩ : ∃ wX, wX = w9.alloc (.cells #[.int .i64 (q : Int), .int .u8 xo, .int .i64 x1, .int .i64 x2, .int .i64 x3] 26) := ⟨_, rfl⟩
          have hb9X : Below w9.heap.size w9 wX := by rw [hwX]; exact Bl.al (Below.refl _ _) _
          have HBX := Lib.hid (show G.Blk wX X 26 #[.int .i64 (q : Int), .int .u8 xo, .int .i64 x1, .int .i64 x2, .int .i64 x3] by rw [hwX, hX]; exact G.Blk.new w9 _ _)
          have hglt : gl < w9.heap.size := World.block_lt_of_cell? _ _ HZ9.out.1
          have HZX : Hid (∀ W, Below wX.heap.size wX W → W.cell? ⟨gl, j * 5, none⟩ = some (.int .i64 (q : Int)) ∧ W.cell? ⟨gl, j * 5 + 1, none⟩ = some (.int .u8 xo) ∧ W.cell? ⟨gl, j * 5 + 2, none⟩ = some (.int .i64 x1) ∧ W.cell? ⟨gl, j * 5 + 3, none⟩ = some (.int .i64 x2) ∧ W.cell? ⟨gl, j * 5 + 4, none⟩ = some (.int .i64 x3) ∧ W.cell? ⟨X, 0, none⟩ = some (.int .i64 (q : Int)) ∧ W.cell? ⟨X, 1, none⟩ = some (.int .u8 xo) ∧ W.cell? ⟨X, 2, none⟩ = some (.int .i64 x1) ∧ W.cell? ⟨X, 3, none⟩ = some (.int .i64 x2) ∧ W.cell? ⟨X, 4, none⟩ = some (.int .i64 x3)) := Lib.hid (fun W h => backCells hglt HZ9.out hb9X HBX.out h)
          have HBXw := Lib.hid (Bl.tr HB9.out hb9X)
          rw [← hwX, ← hX]
          clear hwX hX hb9X
          have hs1 : ¬ sizeOf xo < 1 := by have h : ((encOf (⟨(q : Int), xo, x1, x2, x3⟩ : Ins)).length : Int) = sizeOf xo := HSL.out; omega
          obtain ⟨NM, hNM⟩ : ∃ NM : ByteArray, NM = ⟨(nameOf xo).toArray⟩ := ⟨_, rfl⟩
          have hnm : NM ≠ ⟨#[]⟩ := by
            rintro rfl
            have h := congrArg (fun b : ByteArray => b.data.toList) hNM
            exact name_ne hxo.1 hxo.2 (by omega) (by simpa using h.symm)
          have HNM := Lib.hid (fun W => Name_any xo W hxo.1 hxo.2)
          rw [← hNM] at HNM
          rcases empty_or NM with h | ⟨e1, e2, e3, _, _⟩
          · exact absurd h hnm
          · obtain ⟨hx0, hx1⟩ := hxo
            have HSZ := Lib.hid (fun W => Size_any xo W hx0 hx1)
            obtain ⟨sz, hsz⟩ : ∃ sz, sz = sizeOf xo := ⟨_, rfl⟩
            rw [← hsz] at HSZ hs1
            have HSZE := Lib.hid hsz
            have hs2 : ¬ sz ≤ 0 := by omega
            have hs3 : (1 : Int) ≤ sz := by omega
            have hs4 : (0 : Int) < sz := by omega
            have hs5 : decide (sz < 1) = false := decide_eq_false hs1
            have hB0 : Below wX.heap.size wX wX.drew := (Below.refl _ _).drew
            clear hNM hnm hsz
            go_region_held3 (fun W => W.cell? ⟨gl, j * 5, none⟩ = some (.int .i64 (q : Int)) ∧ W.cell? ⟨gl, j * 5 + 1, none⟩ = some (.int .u8 xo) ∧ W.cell? ⟨gl, j * 5 + 2, none⟩ = some (.int .i64 x1) ∧ W.cell? ⟨gl, j * 5 + 3, none⟩ = some (.int .i64 x2) ∧ W.cell? ⟨gl, j * 5 + 4, none⟩ = some (.int .i64 x3) ∧ W.cell? ⟨X, 0, none⟩ = some (.int .i64 (q : Int)) ∧ W.cell? ⟨X, 1, none⟩ = some (.int .u8 xo) ∧ W.cell? ⟨X, 2, none⟩ = some (.int .i64 x1) ∧ W.cell? ⟨X, 3, none⟩ = some (.int .i64 x2) ∧ W.cell? ⟨X, 4, none⟩ = some (.int .i64 x3)) (first | exact HZX.out _ (by assumption) | go_keep) (first
              | (go_at_call 27; refine (HSZ.out _).mono ?_; rintro e wq ⟨rfl, hbq⟩; have hBA := Bl.tr (by assumption : Below wX.heap.size wX _) hbq; clear hbq)
              | (go_at_call 29; refine (HNM.out _).mono ?_; rintro e wq2 ⟨rfl, hbq2⟩; have hBB := Bl.tr (by assumption : Below wX.heap.size wX _) hbq2; clear hbq2))
            go_wp2_with fail
            refine (HSZ.out _).mono ?_
            rintro e w12 ⟨rfl, hb12⟩
            have HB12 := Lib.hid (Bl.tr (Bl.tr HBXw.out (by assumption)) hb12)
            have HPL := Lib.hid (show (q : Int) + sz = ((bytesOf (l.take (j + 1))).length : Int) by
              have h1 := HBT.out
              have h2 : ((encOf (⟨(q : Int), xo, x1, x2, x3⟩ : Ins)).length : Int) = sizeOf xo := HSL.out
              have h3 := HSZE.out
              omega)
            have hqn : (q : Int) ≤ 65535 := by omega
            have hszb : sz ≤ 5 := by
              have h3 := HSZE.out
              have := width_le (kindOf xo)
              rw [h3]
              unfold sizeOf
              split <;> omega
            go_wp2_with fail
            go_roundw
            case rel => exact ⟨j + 1, by go_num, by omega, by rw [← HPL.out], HB12.out⟩
            case measure => simp [intOf]; omega
        · obtain rfl : j = l.length := by omega
          have hjI : ¬ ((l.length : Int)) < l.length := by omega
          have hpl : (bytesOf (l.take l.length)).length = n := by rw [List.take_length, HBY.out, HN.out]
          rw [hpl]
          clear hpl
          rcases Nat.eq_zero_or_pos l.length with h0 | h0
          · have h0I : ¬ (0 : Int) < l.length := by omega
            go_wp2_with fail
            go_ret
            exact ⟨rfl, Bl.tr HB2.out HB.out⟩
          · have h0I : (0 : Int) < l.length := by omega
            obtain ⟨m, hm⟩ : ∃ m, l.length = m + 1 := ⟨l.length - 1, by omega⟩
            have hml : m < l.length := by omega
            obtain ⟨hat, hri⟩ := HPUT.out.nth hml
            rw [Int.zero_add] at hat
            have hgx : l.getD m zeroIns = l[m] := by rw [List.getD_eq_getElem?_getD, List.getElem?_eq_getElem hml]; rfl
            have hbs := bytes_split l hml
            rw [HBY.out] at hbs
            obtain ⟨q, hq⟩ : ∃ q, q = (bytesOf (l.take m)).length := ⟨_, rfl⟩
            have htk : zs.take q = bytesOf (l.take m) := by rw [hbs, hq, List.take_left]
            have hqn : q ≤ n := by
              have h := congrArg List.length hbs
              rw [List.length_append, ← hq, ← HN.out] at h
              omega
            have hpm : PutOk 0 (l.take m) := PutOk.pre (l2 := l.drop m) (by rw [List.take_append_drop]; exact HPUT.out)
            have HAL := Lib.hid (show allOf (zs.take q) = (l.take m, 0, 0) by rw [htk]; exact allOf_put hpm)
            rw [← hq] at hat
            obtain ⟨gl, kl, hv, hrd, hkm, hkl⟩ := own_rdV (HOL.out wr HB.out) h0
            simp only [Value.slice.injEq, true_and] at hv
            obtain ⟨rfl, rfl⟩ := hv
            have hzl0 : 0 < zs.length := by
              have hep : 1 ≤ (encOf l[m]).length := by simp [encOf]
              have h := congrArg List.length hbs
              rw [List.length_append, List.length_append] at h
              omega
            obtain ⟨bA, oA, rfl, hrA⟩ := (HR.out wr (Bl.tr HB2.out HB.out)).2 hzl0
            have hrAq : G.RdS wr (some ⟨bA, oA, none⟩) 1 (zs.take q).length (u8s (zs.take q)) := ⟨by rw [u8s_length, Nat.mul_one], fun _ => ⟨bA, oA, rfl, hrA.1, fun i hi => by
              have hi2 : i < q := by rw [u8s_length, List.length_take] at hi; omega
              rw [hrA.2 i (by rw [u8s_length, ← HN.out]; omega)]
              unfold u8s
              simp only [List.getD_eq_getElem?_getD, List.getElem?_map, List.getElem?_take, if_pos hi2]⟩⟩
            have hql : (zs.take q).length = q := by rw [List.length_take, ← HN.out]; omega
            have hzq : IsBytes (zs.take q) := fun i => by
              have h := HZ.out i
              rw [List.getD_eq_getElem?_getD] at h ⊢
              rw [List.getElem?_take]
              split
              · exact h
              · simp
            have c10 := All_rd (c := ca) hrAq hzq (by have h1 := HNC.out; rw [← HN.out] at h1; omega) HCA.out (by omega)
            unfold AllPost at c10
            rw [hql, HAL.out] at c10
            simp only at c10
            have HC10 := Lib.hid c10
            have hz0 := (ins_at ⟨hrd.1, hrd.2⟩ hml rfl).1
            rw [hgx, hat, Nat.zero_add] at hz0
            have hs1 := pre_u8 bA oA n ca q (by have h1 := HNC.out; rw [← HN.out] at h1; omega)
            have hs2 := pre_ins gl l.length cl m (by omega)
            have hsub : ((l.length : Int)) - 1 = (m : Int) := by omega
            have HRM := Lib.hid (fun W (h : Below wr.heap.size wr W) => (pre_rd (hrd.below h) hml : G.RdS W (some ⟨gl, 0, none⟩) 5 (l.take m).length (flat (l.take m))))
            have HML := Lib.hid (show (l.take m).length = m by rw [List.length_take]; omega)
            have hlz := hrd.1
            clear hbs htk hpm hrA hrAq hzq c10 hat hri hgx hrd hq hm
            have hqI : (q : Int) ≤ n := by omega
            have hmI : (m : Int) < l.length := by omega
            go_upto_region 24 with (fail)
            go_wp2_with fail
            refine HC10.out.mono ?_
            rintro e w10 ⟨v10, rfl, ho10, hb10⟩
            obtain ⟨a10, c10, rfl⟩ := G.own_shape ho10
            have HR10 := Lib.hid (HRM.out w10 hb10)
            have HO10 := Lib.hid ho10
            have HB10 := Lib.hid (Bl.tr HB.out hb10)
            rw [HML.out]
            clear hz0 hb10 ho10 hs1
            go_wp2_with fail
            have c11 := eqInstrs_any a10 (some ⟨gl, 0, none⟩) m m c10 cl (l.take m) (l.take m) w10 (by have h := G.RdS.of_own HO10.out; rwa [HML.out] at h) (by have h := HR10.out; rwa [HML.out] at h) (by unfold maxLen; omega) (by unfold maxLen; omega)
            rw [decide_eq_true rfl] at c11
            refine c11.mono ?_
            rintro e w11 ⟨rfl, q11, hw11⟩
            have HB11 := Lib.hid (Bl.tr HB10.out (show Below w10.heap.size w10 w11 by rw [hw11]; exact Bl.dn (Below.refl _ _) _))
            clear c11 hw11
            go_wp2_with fail
            go_ret
            exact ⟨rfl, Bl.tr HB2.out HB11.out⟩
end Go.Proofs.YtfldicaaaadgaaaDoor.Code

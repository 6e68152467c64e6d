/- The contract of code.Parse. -/
import Derived.Test.YtfldicaaaadgaaaGreatDoorCRowW
import Derived.Test.YtfldicaaaadgaaaGreatDoorCPutAny
import Derived.Test.YtfldicaaaadgaaaGreatDoorCAll
import Derived.Test.YtfldicaaaadgaaaGreatDoorCWorks
import Derived.Deep.LoopGhost
import Derived.Handy
namespace Go.Proofs.YtfldicaaaadgaaaGreatDoor.Code
open Go Go.RowKit
set_option linter.unusedVariables false
set_option linter.unusedSimpArgs false
theorem Put_nil (w : World) : Calls Tryz.prog 12 #[.slice none 0 0] w (PutAPost [] w) := by
  go_enter Tryz.func12, Tryz.ntmps12
  go_wp2
  go_rounds 1
  go_ret3
  exact ⟨_, rfl, World.ownsRow_nil _ _ _ _, Below.refl _ _⟩
def ParseP (s : List UInt8) (w : World) (e : Ending) (w' : World) : Prop :=
  ∃ v, e = .returned (.tuple #[v, .int .i64 (parseOf s).2.1, .int .i64 (parseOf s).2.2]) ∧ w'.ownsRow w.heap.size 55 5 v (parseOf s).1.length (flat (parseOf s).1) ∧ Below w.heap.size w w'
theorem parseP_bad {s : List UInt8} {w w' : World} {a b : Int} (h : parseOf s = ([], a, b)) (hb : Below w.heap.size w w') : ParseP s w (.returned (.tuple #[.slice none 0 0, .int .i64 a, .int .i64 b])) w' := by
  unfold ParseP
  rw [h]
  exact ⟨_, rfl, World.ownsRow_nil _ _ _ _, hb⟩
theorem parseP_ok {s : List UInt8} {w w' : World} {l : List Ins} {v : Value} (h : parseOf s = (l, 0, 0)) (ho : w'.ownsRow w.heap.size 55 5 v l.length (flat l)) (hb : Below w.heap.size w w') : ParseP s w (.returned (.tuple #[v, .int .i64 0, .int .i64 0])) w' := by
  unfold ParseP
  rw [h]
  exact ⟨_, rfl, ho, hb⟩
theorem rowL_op {s : List UInt8} {x : Ins} (h : rowL s = some x) : 0 ≤ x.op ∧ x.op < 256 := by
  unfold rowL at h
  split at h
  · rename_i a nm ops hp
    cases hf : table.find? (fun r => r.2.1 == nm) with
    | none => rw [hf] at h; cases h
    | some r =>
      rw [hf] at h
      have hr := List.all_eq_true.1 table_bd r (List.mem_of_find?_eq_some hf)
      simp at hr
      unfold rowWith at h
      simp only at h
      split at h
      · cases h
      · split at h
        · cases h
        · split at h
          · cases h
          · obtain rfl := Option.some.inj h
            exact ⟨hr.1, hr.2.1⟩
  · cases h
/-- What the loop over the rows holds. -/
structure PsI (w wr : World) (v : Value) (rs : List (List UInt8)) (j : Nat) (acc : List Ins) : Prop where
  own : wr.ownsRow w.heap.size 55 5 v acc.length (flat acc)
  bl : Below w.heap.size w wr
  go : rowsGo (rs.drop j) j acc = rowsGo rs 0 []
  op : ∀ x ∈ acc, 0 ≤ x.op ∧ x.op < 256
  len : acc.length ≤ j
theorem PsI.below {w wr w' : World} {v : Value} {rs : List (List UInt8)} {j : Nat} {acc : List Ins} (h : PsI w wr v rs j acc) (hb : Below wr.heap.size wr w') : PsI w w' v rs j acc := ⟨Bl.own h.own hb, Bl.tr h.bl hb, h.go, h.op, h.len⟩
theorem PsI.step {w wr w' : World} {v v' : Value} {rs : List (List UInt8)} {j : Nat} {acc : List Ins} {x : Ins} (h : PsI w wr v rs j acc) (hj : j < rs.length) (hx : rowL (rs.getD j []) = some x)
    (ho : w'.ownsRow w.heap.size 55 5 v' (acc.length + 1) (flat acc ++ x.cells)) (hg : wr.grownBy w' v.ownBlock) : PsI w w' v' rs (j + 1) (acc ++ [x]) := by
  refine ⟨?_, Bl.grown h.bl h.own hg, ?_, fun y hy => ?_, by have := h.len; simp; omega⟩
  · rw [List.length_append, flat_snoc]
    exact ho
  · rw [← h.go, List.drop_eq_getElem_cons hj, rowsGo]
    rw [List.getD_eq_getElem?_getD, List.getElem?_eq_getElem hj] at hx
    simp only [Option.getD_some] at hx
    rw [hx]
  · rcases List.mem_append.1 hy with hy | hy
    · exact h.op y hy
    · simp only [List.mem_singleton] at hy
      subst hy
      exact rowL_op hx
theorem PsI.bad {w wr : World} {v : Value} {rs : List (List UInt8)} {j : Nat} {acc : List Ins} (h : PsI w wr v rs j acc) (hj : j < rs.length) (hx : rowL (rs.getD j []) = none) : rowsGo rs 0 [] = .error j := by
  rw [← h.go, List.drop_eq_getElem_cons hj, rowsGo]
  rw [List.getD_eq_getElem?_getD, List.getElem?_eq_getElem hj] at hx
  simp only [Option.getD_some] at hx
  rw [hx]
theorem PsI.done {w wr : World} {v : Value} {rs : List (List UInt8)} {acc : List Ins} (h : PsI w wr v rs rs.length acc) : rowsGo rs 0 [] = .ok acc := by
  rw [← h.go, List.drop_length, rowsGo]
theorem head_slice (b n : Nat) : ∀ W, (Instr.slice 63 (.slice (some ⟨b, 0, none⟩) (n + 1) (n + 1)) none (some (.int .i64 (n : Int))) none).run Tryz.prog W = .ok (.slice (some ⟨b, 0, none⟩) n (n + 1)) W := fun W => by
  have ht' : Tryz.prog.underlying 63 = some (.slice (Tryz.prog.elem 63)) := by simp [Program.elem, Tryz.underlying63]
  have he : Tryz.prog.elem 63 = 9 := by simp [Program.elem, Tryz.underlying63]
  have hsz : ∀ W, (Go.sizeOf 9).run Tryz.prog W = .ok 1 W := fun W => by kernel_rfl
  rw [run_slice_h W 63 _ _ _ ht' .i64 n (by omega) (by omega), he, hsz]
  simp [Result.andThen, sliced, Addr.add]
set_option maxRecDepth 100000 in
set_option maxHeartbeats 8000000 in
theorem parse_any (s : ByteArray) (w0 w : World) (hs : s.size ≤ 16777216) (hL : LibP w0) (hb : Below w0.heap.size w0 w) : Calls Tryz.prog 5 #[.string s] w (ParseP s.data.toList w) := by
  obtain ⟨i0, hi, hz0, hz1, hz2⟩ := info_parts info26
  have HS := Lib.hid (fun W h => hL.split s 10 W hs (Bl.tr hb h))
  have HROW := Lib.hid (fun (q : ByteArray) W (hq : q.size ≤ 16777216) (h : Below w.heap.size w W) => row_any q w0 W hq hL (Bl.tr hb h))
  have hsl : s.data.toList.length = s.size := by simp
  have hpl := splitC_len 10 s.data.toList
  have hpm := splitC_mem 10 s.data.toList
  have hpp := splitC_pos 10 s.data.toList
  rw [hsl] at hpl hpm
  have HPO := Lib.hid (show parseOf s.data.toList = match rowsGo (splitC 10 s.data.toList).dropLast 0 [] with
    | .error i => ([], 80, i)
    | .ok l => if (splitC 10 s.data.toList).getLastD [] ≠ [] then ([], 80, ((splitC 10 s.data.toList).length : Int) - 1) else if (putOf l).2.1 ≠ 0 then ([], (putOf l).2.1, (putOf l).2.2) else (l, 0, 0) from rfl)
  obtain ⟨PS, hPS⟩ : ∃ PS, PS = splitC 10 s.data.toList := ⟨_, rfl⟩
  rw [← hPS] at HS hpl hpm HPO hpp
  have HPM := Lib.hid hpm
  obtain ⟨n, hn⟩ : ∃ n, PS.length = n + 1 := ⟨PS.length - 1, by omega⟩
  have HN := Lib.hid hn
  rw [hn] at HS hpl
  have hnb : n ≤ 16777216 := by omega
  have HRL := Lib.hid (show PS.dropLast.length = n by rw [List.length_dropLast, hn]; omega)
  have HRG := Lib.hid (show ∀ j, j < n → PS.dropLast.getD j [] = PS.getD j [] from fun j hj => by
    rw [List.getD_eq_getElem?_getD, List.getD_eq_getElem?_getD, List.getElem?_dropLast, if_pos (by rw [hn]; omega)])
  have HLA := Lib.hid (show PS.getLastD [] = PS.getD n [] by
    rw [List.getLastD_eq_getLast?, List.getLast?_eq_getElem?, hn, List.getD_eq_getElem?_getD]
    rfl)
  have hsl2 := head_slice w.heap.size n
  clear hL hb hsl hpm hPS hn hpp
  go_enter Tryz.func5, Tryz.ntmps5
  go_wp2_with fail
  refine (HS.out w (Below.refl _ _)).mono ?_
  rintro e w1 ⟨rfl, hw1⟩
  have HB1 := Lib.hid (show Below w.heap.size w w1 by rw [hw1]; exact Bl.al (Below.refl _ _) _)
  have HST := Lib.hid (show G.Blk w1 w.heap.size 9 (strsL PS).toArray by rw [hw1]; exact G.Blk.new w _ _)
  clear hw1
  have HPC := Lib.hid (show ∀ W, Below w1.heap.size w1 W → ∀ i, i ≤ n → W.cell? ⟨w.heap.size, i, none⟩ = some (.string ⟨(PS.getD i []).toArray⟩) from fun W hW i hi => by
    rw [(HST.out.below hW HST.out.lt).cell, List.getElem?_toArray]
    unfold strsL
    have hi2 : i < PS.length := by rw [HN.out]; omega
    rw [List.getElem?_map, List.getElem?_eq_getElem hi2, List.getD_eq_getElem?_getD, List.getElem?_eq_getElem hi2]
    rfl)
  have HPB := Lib.hid (show ∀ i, i ≤ n → (PS.getD i []).length ≤ 16777216 from fun i hi => by
    have hi2 : i < PS.length := by rw [HN.out]; omega
    have h1 := HPM.out (PS.getD i []) (by rw [List.getD_eq_getElem?_getD, List.getElem?_eq_getElem hi2]; exact List.getElem_mem _)
    omega)
  go_wp2_with fail
  clear hsl2
  go_loopw [6, 22] (fun v c wr => ∃ (j : Nat) (acc : List Ins), c = .int .i64 j ∧ j ≤ n ∧ PsI w1 wr v PS.dropLast j acc) (fun _ c _ => n - (intOf c).toNat)
  case atStart => exact ⟨0, [], rfl, Nat.zero_le _, ⟨World.ownsRow_nil _ _ _ _, Below.refl _ _, rfl, (fun x hx => by cases hx), Nat.le_refl _⟩⟩
  case round =>
    obtain ⟨j, acc, rfl, hj, hps⟩ := hrel
    have HPS := Lib.hid hps
    obtain ⟨av, cv, rfl⟩ := G.own_shape hps.own
    have hal := hps.len
    clear hps
    by_cases hlt : j < n
    · have hjI : (j : Int) < n := by omega
      obtain ⟨Q, hQ⟩ : ∃ Q : ByteArray, Q = ⟨(PS.getD j []).toArray⟩ := ⟨_, rfl⟩
      have hpj := HPC.out wr HPS.out.bl j (by omega)
      rw [← hQ] at hpj
      have HQ := Lib.hid (show Q.data.toList = PS.dropLast.getD j [] by rw [hQ, HRG.out j hlt])
      have HRC := Lib.hid (HROW.out Q wr (by rw [hQ]; exact HPB.out j (by omega)) (Bl.tr HB1.out HPS.out.bl))
      clear hQ
      go_wp2_with fail
      refine HRC.out.mono ?_
      rintro e w7 ⟨x, ok, rfl, hok, hb7⟩
      rw [HQ.out] at hok
      have HPS7 := Lib.hid (HPS.out.below hb7)
      clear hb7 hpj
      rcases hok with ⟨rfl, hx⟩ | ⟨rfl, hx⟩
      · have HX := Lib.hid hx
        clear hx
        obtain ⟨xa, xo, x1, x2, x3⟩ := x
        unfold Ins.val
        go_wp2_with (at_builtin; refine wpList_append_own _ rfl (.tmp 35) (.tmp 37) 23 rfl w1.heap.size 55 i0 (.agg #[.int .i64 0, .int .u8 0, .int .i64 0, .int .i64 0, .int .i64 0]) 5 40 Tryz.underlying23 hi hz0 hz1 hz2 rfl (by decide) _ _ _ rfl (HPS7.out.below (Bl.al (Bl.al (Below.refl _ _) _) _)).own ⟨w7.heap.size + 1, 0, none⟩ 1 1 (Ins.cells ⟨xa, xo, x1, x2, x3⟩) rfl rfl (cells_new _ _ _ _ (by simp)) (Ins.cells_one _) (by unfold maxLen; omega) (by omega) (by have := HPS7.out.bl.size; simp; omega) ?_; intro v3 w8 hown3 hg3 _q; have HP8 := Lib.hid ((HPS7.out.below (Bl.al (Bl.al (Below.refl _ _) _) _)).step (by rw [HRL.out]; exact hlt) HX.out hown3 hg3); clear hown3 hg3)
        go_roundw
        case rel => exact ⟨j + 1, acc ++ [⟨xa, xo, x1, x2, x3⟩], by go_num, by omega, HP8.out⟩
        case measure => simp [intOf]; omega
      · have HBAD := Lib.hid (show parseOf s.data.toList = ([], 80, (j : Int)) by rw [HPO.out, HPS7.out.bad (by rw [HRL.out]; exact hlt) hx])
        clear hx
        obtain ⟨xa, xo, x1, x2, x3⟩ := x
        unfold Ins.val
        go_wp2_with fail
        go_ret3
        exact parseP_bad HBAD.out (Bl.tr HB1.out (Bl.tr HPS7.out.bl (Bl.al (Below.refl _ _) _)))
    · obtain rfl : j = n := by omega
      have hjI : ¬ (j : Int) < j := by omega
      have hps := HPS.out
      have hgo := HPS.out
      have HGO := Lib.hid (show rowsGo PS.dropLast 0 [] = .ok acc by
        have h := HPS.out
        have e := HRL.out
        rw [← e] at h
        exact h.done)
      obtain ⟨Q, hQ⟩ : ∃ Q : ByteArray, Q = ⟨(PS.getD j []).toArray⟩ := ⟨_, rfl⟩
      have hpj := HPC.out wr HPS.out.bl j (Nat.le_refl _)
      rw [← hQ] at hpj
      have HQ := Lib.hid (show Q.data.toList = PS.getLastD [] by rw [hQ, HLA.out])
      clear hQ hps hgo
      rcases empty_or Q with rfl | ⟨e1, e2, e3, e4, e5⟩
      · have HSP := Lib.hid (show parseOf s.data.toList = if (putOf acc).2.1 ≠ 0 then ([], (putOf acc).2.1, ((putOf acc).2.2 : Int)) else (acc, 0, 0) by
          rw [HPO.out, HGO.out]
          simp only
          rw [← HQ.out, if_neg (by simp)])
        obtain ⟨pp, hpp⟩ : ∃ pp, pp = putOf acc := ⟨_, rfl⟩
        rw [← hpp] at HSP
        have HPUT : Hid (Calls Tryz.prog 12 #[.slice av acc.length cv] wr fun e w' => ∃ v, e = .returned (.tuple #[v, .int .i64 pp.2.1, .int .i64 (pp.2.2 : Int)]) ∧ Below wr.heap.size wr w') := Lib.hid (by
          have key : Calls Tryz.prog 12 #[.slice av acc.length cv] wr (PutAPost acc wr) := by
            rcases HPS.out.own.2 with ⟨hv, h0⟩ | ⟨g, cap, cur, hv, hbg, hgg, hnc, hcm, hcs, htk⟩
            · have h1 : acc = [] := List.eq_nil_of_length_eq_zero h0
              simp only [Value.slice.injEq] at hv
              obtain ⟨rfl, _, rfl⟩ := hv
              subst h1
              exact Put_nil wr
            · simp only [Value.slice.injEq] at hv
              obtain ⟨rfl, _, rfl⟩ := hv
              refine Put_any g 0 _ acc wr (by omega) ?_ HPS.out.op
              rcases Nat.eq_zero_or_pos acc.length with h0 | h0
              · have h1 : acc = [] := List.eq_nil_of_length_eq_zero h0
                subst h1
                exact ⟨(Array.getElem?_eq_some_iff.1 hgg).1, fun i hi => by simp [flat] at hi⟩
              · obtain ⟨g2, cap2, hv2, hrd, _, _⟩ := own_rdV HPS.out.own h0
                simp only [Value.slice.injEq, Option.some.injEq, Addr.mk.injEq, and_true] at hv2
                obtain ⟨rfl, _⟩ := hv2
                exact hrd
          refine key.mono fun e w' he => ?_
          unfold PutAPost at he
          rw [← hpp] at he
          obtain ⟨v, h1, _, h2⟩ := he
          exact ⟨v, h1, h2⟩)
        clear hpp
        obtain ⟨p1, p2, p3⟩ := pp
        simp only at HPUT HSP
        go_wp2_with fail
        refine HPUT.out.mono ?_
        rintro e w8 ⟨v8, rfl, hb8⟩
        have HPS8 := Lib.hid (HPS.out.below hb8)
        clear hb8
        by_cases h0 : p2 = 0
        · subst h0
          have HOK := Lib.hid (show parseOf s.data.toList = (acc, 0, 0) by rw [HSP.out, if_neg (by simp)])
          go_wp2_with fail
          go_ret3
          exact parseP_ok HOK.out (G.own_ge HPS8.out.own HB1.out.size) (Bl.tr HB1.out HPS8.out.bl)
        · have hne : (p2 == 0) = false := by simpa using h0
          have HBAD := Lib.hid (show parseOf s.data.toList = ([], p2, (p3 : Int)) by rw [HSP.out, if_pos h0])
          go_wp2_with fail
          go_ret3
          exact parseP_bad HBAD.out (Bl.tr HB1.out HPS8.out.bl)
      · have HBAD := Lib.hid (show parseOf s.data.toList = ([], 80, (j : Int)) by
          rw [HPO.out, HGO.out]
          simp only
          rw [← HQ.out, if_pos e4, HN.out]
          congr 2
          omega)
        go_wp2_with fail
        go_ret3
        exact parseP_bad HBAD.out (Bl.tr HB1.out HPS.out.bl)
end Go.Proofs.YtfldicaaaadgaaaGreatDoor.Code

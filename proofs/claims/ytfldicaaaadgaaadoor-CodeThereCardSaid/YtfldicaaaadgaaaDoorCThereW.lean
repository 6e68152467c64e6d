/- The law CodeThere answers true. -/
import Derived.Test.YtfldicaaaadgaaaDoorCOwn
import Derived.Test.YtfldicaaaadgaaaDoorCEq
namespace Go.Proofs.YtfldicaaaadgaaaDoor.Code
open Go Go.RowKit
set_option linter.unusedVariables false
set_option linter.unusedSimpArgs false
theorem i64_and255 (n : Int) : bits .and .i64 n 255 = n % 256 := by
  have h255 : (BitVec.ofInt 64 255).toNat = 2 ^ 8 - 1 := by decide
  have key : (BitVec.ofInt 64 n &&& BitVec.ofInt 64 255).toNat = (n % ((2 ^ 64 : Nat) : Int)).toNat % 2 ^ 8 := by
    rw [BitVec.toNat_and, BitVec.toNat_ofInt, h255, Nat.and_two_pow_sub_one_eq_mod]
  show IntKind.i64.wrap ((BitVec.ofInt 64 n &&& BitVec.ofInt 64 255).toNat : Nat) = n % 256
  rw [key, IntKind.wrap_i64]
  omega
theorem itoa_below {w w' : World} (h : ItoaIn w) (hb : Below w.heap.size w w') : ItoaIn w' := fun n W h0 h1 hb2 => h n W h0 h1 (Bl.tr hb hb2)
theorem size_of_kind {op k : Int} (h : kindOf op = k) (hk : 0 ≤ k) : sizeOf op = 1 + width k := by
  unfold sizeOf
  rw [h, if_neg (by omega)]
def TrueP (w : World) (e : Ending) (w' : World) : Prop := e = .returned (.bool true) ∧ Below w.heap.size w w'
set_option maxRecDepth 100000 in
set_option maxHeartbeats 8000000 in
theorem there_walk (A B : Option Addr) (ca cb : Nat) (zs ns : List Int) (w : World) (hr : G.RdS w A 1 zs.length (u8s zs)) (hz : IsBytes zs) (hn : G.RdS w B 1 ns.length (i64s ns)) (hit : ItoaIn w) (hL : LibP w) :
    Calls Tryd.prog 6 #[.slice A zs.length ca, .slice B ns.length cb] w (TrueP w) := by
  obtain ⟨i0, hi, hz0, hz1, hz2⟩ := info_parts info26
  obtain ⟨na, hna⟩ : ∃ na, na = zs.length := ⟨_, rfl⟩
  obtain ⟨nb, hnb⟩ : ∃ nb, nb = ns.length := ⟨_, rfl⟩
  rw [← hna] at hr ⊢
  rw [← hnb] at hn ⊢
  have HNA := Lib.hid hna
  have HNB := Lib.hid hnb
  have HR := Lib.hid hr
  have HZ := Lib.hid hz
  have HNS := Lib.hid hn
  have HL := Lib.hid hL
  have HIT := Lib.hid hit
  clear hr hz hn hit hL hna hnb
  unfold TrueP
  go_enter Tryd.func6, Tryd.ntmps6
  go_wp2_with fail
  refine (works_any w HIT.out).mono ?_
  rintro e w1 ⟨rfl, hb1⟩
  have HB1 := Lib.hid hb1
  clear hb1
  by_cases hsm : na ≤ 4096 ∧ nb ≤ 4096
  · obtain ⟨hsa, hsb⟩ := hsm
    have g1 : ¬ (4096 : Int) < na := by omega
    have g2 : ¬ (4096 : Int) < nb := by omega
    go_wp2_with fail
    go_loopw [6, 7, 8] (fun v p i wr => ∃ (j : Nat) (P : Int) (l : List Ins), i = .int .i64 j ∧ p = .int .i64 P ∧ j ≤ na ∧ ThI w1 wr v j P l) (fun _ _ i _ => na - (intOf i).toNat)
    case atStart => exact ⟨0, 0, [], rfl, rfl, Nat.zero_le _, ⟨World.ownsRow_nil _ _ _ _, Below.refl _ _, fun _ h => h, rfl, by omega, by omega, Nat.le_refl _, (fun x hx => by cases hx)⟩⟩
    case round =>
      obtain ⟨j, P, l, rfl, rfl, hj, hth⟩ := hrel
      have HTH := Lib.hid hth
      obtain ⟨av, cv, rfl⟩ := G.own_shape hth.own
      clear hth
      by_cases hlt : j < na
      · have hjI : (j : Int) < na := by omega
        obtain ⟨bA, oA, rfl, hra⟩ := HR.out.2 (by omega)
        have hco : wr.cell? ⟨bA, oA + j, none⟩ = some (.int .u8 (zs.getD j 0)) := by
          have h := (hra.below (Bl.tr HB1.out HTH.out.bl)).2 j (by unfold u8s; rw [List.length_map, ← HNA.out]; exact hlt)
          rw [h]
          unfold u8s
          rw [List.getD_eq_getElem?_getD, List.getElem?_map, List.getElem?_eq_getElem (by rw [← HNA.out]; exact hlt), List.getD_eq_getElem?_getD, List.getElem?_eq_getElem (by rw [← HNA.out]; exact hlt)]
          rfl
        obtain ⟨hop0, hop1⟩ := HZ.out j
        obtain ⟨op, hop⟩ : ∃ op, op = zs.getD j 0 := ⟨_, rfl⟩
        rw [← hop] at hco hop0 hop1
        have HCO := Lib.hid hco
        clear hop hra
        go_wp2_with fail
        refine (Size_any op wr hop0 hop1).mono ?_
        rintro e w2 ⟨rfl, hb2⟩
        have HT2 := Lib.hid (HTH.out.below hb2)
        have hco2 : w2.cell? ⟨bA, oA + j, none⟩ = some (.int .u8 op) := (hb2.cell (p := ⟨bA, oA + j, none⟩) (World.block_lt_of_cell? _ _ hco)).trans hco
        clear hco hb2
        by_cases hk : kindOf op < 0
        · have hs0 : sizeOf op = 0 := by unfold sizeOf; rw [if_pos hk]
          rw [hs0]
          go_wp2_with fail
          go_roundw
          case rel => exact ⟨j + 1, P, l, by go_num, rfl, by omega, HT2.out.skip⟩
          case measure => simp [intOf]; omega
        · by_cases hjb : j < nb
          · have hjbI : (j : Int) < nb := by omega
            obtain ⟨bB, oB, rfl, hrb⟩ := HNS.out.2 (by omega)
            obtain ⟨q, hq⟩ : ∃ q, q = ns.getD j 0 := ⟨_, rfl⟩
            have hcb : w2.cell? ⟨bB, oB + j, none⟩ = some (.int .i64 q) := by
              have h := (hrb.below (Bl.tr HB1.out HT2.out.bl)).2 j (by unfold i64s; rw [List.length_map, ← HNB.out]; exact hjb)
              rw [h, hq]
              unfold i64s
              rw [List.getD_eq_getElem?_getD, List.getElem?_map, List.getElem?_eq_getElem (by rw [← HNB.out]; exact hjb), List.getD_eq_getElem?_getD, List.getElem?_eq_getElem (by rw [← HNB.out]; exact hjb)]
              rfl
            clear hrb hq
            have hsn : (sizeOf op == 0) = false := by
              have := width_le (kindOf op)
              unfold sizeOf
              rw [if_neg hk, beq_eq_false_iff_ne]
              omega
            have hP0 := HT2.out.pos
            have hP1 := HT2.out.most
            have hll := HT2.out.num
            go_upto_region 15 with (fail)
            rw [i64_and255]
            obtain ⟨a, haq⟩ : ∃ a, a = q % 256 := ⟨_, rfl⟩
            have ha0 : 0 ≤ a := by omega
            have ha1 : a < 256 := by omega
            rw [← haq]
            clear haq hcb
            rcases kind_or op hop0 hop1 with h | h | h | h | h
            · omega
            · have hsz : sizeOf op = 1 := by rw [size_of_kind h (by omega)]; rfl
              have HSZ := Lib.hid hsz
              have HRI := Lib.hid (show RightI ⟨P, op, 0, 0, 0⟩ from .inl ⟨h, rfl, rfl, rfl⟩)
              rw [hsz]
              clear hsz h hk hsn
              go_wp2_with (at_builtin; refine wpList_append_own _ rfl (.tmp 85) (.tmp 87) 30 rfl w1.heap.size 26 i0 (.agg #[.int .i64 0, .int .u8 0, .int .i64 0, .int .i64 0, .int .i64 0]) 5 40 Tryd.underlying30 hi hz0 hz1 hz2 rfl (by decide) _ _ _ rfl (HT2.out.below (Bl.al (Bl.al (Below.refl _ _) _) _)).own ⟨w2.heap.size + 1, 0, none⟩ 1 1 (Ins.cells ⟨P, op, 0, 0, 0⟩) rfl rfl (cells_new _ _ _ _ (by simp)) (Ins.cells_one _) (by unfold maxLen; omega) (by omega) (by have := HT2.out.bl.size; simp; omega) ?_; intro v3 w8 hown3 hg3 _q; have HT8 := Lib.hid ((HT2.out.below (Bl.al (Bl.al (Below.refl _ _) _) _)).step (by omega) HRI.out rfl ⟨hop0, hop1⟩ hown3 hg3); clear hown3 hg3)
              go_roundw
              case rel => exact ⟨j + 1, P + 1, l ++ [⟨P, op, 0, 0, 0⟩], by go_num, by go_num, by omega, by have h := HT8.out; rw [show sizeOf (Ins.op ⟨P, op, 0, 0, 0⟩) = 1 from HSZ.out] at h; exact h⟩
              case measure => simp [intOf]; omega
            · have hsz : sizeOf op = 2 := by rw [size_of_kind h (by omega)]; rfl
              have HSZ := Lib.hid hsz
              have HRI := Lib.hid (show RightI ⟨P, op, a, 0, 0⟩ from .inr (.inl ⟨h, ⟨ha0, ha1⟩, rfl, rfl⟩))
              rw [hsz]
              clear hsz h hk hsn
              go_wp2_with (at_builtin; refine wpList_append_own _ rfl (.tmp 85) (.tmp 87) 30 rfl w1.heap.size 26 i0 (.agg #[.int .i64 0, .int .u8 0, .int .i64 0, .int .i64 0, .int .i64 0]) 5 40 Tryd.underlying30 hi hz0 hz1 hz2 rfl (by decide) _ _ _ rfl (HT2.out.below (Bl.al (Bl.al (Below.refl _ _) _) _)).own ⟨w2.heap.size + 1, 0, none⟩ 1 1 (Ins.cells ⟨P, op, a, 0, 0⟩) rfl rfl (cells_new _ _ _ _ (by simp)) (Ins.cells_one _) (by unfold maxLen; omega) (by omega) (by have := HT2.out.bl.size; simp; omega) ?_; intro v3 w8 hown3 hg3 _q; have HT8 := Lib.hid ((HT2.out.below (Bl.al (Bl.al (Below.refl _ _) _) _)).step (by omega) HRI.out rfl ⟨hop0, hop1⟩ hown3 hg3); clear hown3 hg3)
              go_roundw
              case rel => exact ⟨j + 1, P + 2, l ++ [⟨P, op, a, 0, 0⟩], by go_num, by go_num, by omega, by have h := HT8.out; rw [show sizeOf (Ins.op ⟨P, op, a, 0, 0⟩) = 2 from HSZ.out] at h; exact h⟩
              case measure => simp [intOf]; omega
            · have hsz : sizeOf op = 3 := by rw [size_of_kind h (by omega)]; rfl
              have HSZ := Lib.hid hsz
              have HRI := Lib.hid (show RightI ⟨P, op, 257 * a, 0, 0⟩ from .inr (.inr (.inl ⟨h, ⟨by simp only; omega, by simp only; omega⟩, rfl, rfl⟩)))
              rw [hsz]
              clear hsz h hk hsn
              go_wp2_with (at_builtin; refine wpList_append_own _ rfl (.tmp 85) (.tmp 87) 30 rfl w1.heap.size 26 i0 (.agg #[.int .i64 0, .int .u8 0, .int .i64 0, .int .i64 0, .int .i64 0]) 5 40 Tryd.underlying30 hi hz0 hz1 hz2 rfl (by decide) _ _ _ rfl (HT2.out.below (Bl.al (Bl.al (Below.refl _ _) _) _)).own ⟨w2.heap.size + 1, 0, none⟩ 1 1 (Ins.cells ⟨P, op, 257 * a, 0, 0⟩) rfl rfl (cells_new _ _ _ _ (by simp)) (Ins.cells_one _) (by unfold maxLen; omega) (by omega) (by have := HT2.out.bl.size; simp; omega) ?_; intro v3 w8 hown3 hg3 _q; have HT8 := Lib.hid ((HT2.out.below (Bl.al (Bl.al (Below.refl _ _) _) _)).step (by omega) HRI.out rfl ⟨hop0, hop1⟩ hown3 hg3); clear hown3 hg3)
              go_roundw
              case rel => exact ⟨j + 1, P + 3, l ++ [⟨P, op, 257 * a, 0, 0⟩], by go_num, by go_num, by omega, by have h := HT8.out; rw [show sizeOf (Ins.op ⟨P, op, 257 * a, 0, 0⟩) = 3 from HSZ.out] at h; exact h⟩
              case measure => simp [intOf]; omega
            · have hsz : sizeOf op = 5 := by rw [size_of_kind h (by omega)]; rfl
              have HSZ := Lib.hid hsz
              have HRI := Lib.hid (show RightI ⟨P, op, a, 255 - a, 256 * a + 255 - a⟩ from .inr (.inr (.inr ⟨h, ⟨ha0, ha1⟩, ⟨by simp only; omega, by simp only; omega⟩, ⟨by simp only; omega, by simp only; omega⟩⟩)))
              rw [hsz]
              clear hsz h hk hsn
              go_wp2_with (at_builtin; refine wpList_append_own _ rfl (.tmp 85) (.tmp 87) 30 rfl w1.heap.size 26 i0 (.agg #[.int .i64 0, .int .u8 0, .int .i64 0, .int .i64 0, .int .i64 0]) 5 40 Tryd.underlying30 hi hz0 hz1 hz2 rfl (by decide) _ _ _ rfl (HT2.out.below (Bl.al (Bl.al (Below.refl _ _) _) _)).own ⟨w2.heap.size + 1, 0, none⟩ 1 1 (Ins.cells ⟨P, op, a, 255 - a, 256 * a + 255 - a⟩) rfl rfl (cells_new _ _ _ _ (by simp)) (Ins.cells_one _) (by unfold maxLen; omega) (by omega) (by have := HT2.out.bl.size; simp; omega) ?_; intro v3 w8 hown3 hg3 _q; have HT8 := Lib.hid ((HT2.out.below (Bl.al (Bl.al (Below.refl _ _) _) _)).step (by omega) HRI.out rfl ⟨hop0, hop1⟩ hown3 hg3); clear hown3 hg3)
              go_roundw
              case rel => exact ⟨j + 1, P + 5, l ++ [⟨P, op, a, 255 - a, 256 * a + 255 - a⟩], by go_num, by go_num, by omega, by have h := HT8.out; rw [show sizeOf (Ins.op ⟨P, op, a, 255 - a, 256 * a + 255 - a⟩) = 5 from HSZ.out] at h; exact h⟩
              case measure => simp [intOf]; omega
          · have hjbI : ¬ (j : Int) < nb := by omega
            have hsn : (sizeOf op == 0) = false := by
              have := width_le (kindOf op)
              unfold sizeOf
              rw [if_neg hk, beq_eq_false_iff_ne]
              omega
            have hP0 := HT2.out.pos
            have hP1 := HT2.out.most
            have hll := HT2.out.num
            go_upto_region 15 with (fail)
            obtain ⟨a, haq⟩ : ∃ a : Int, a = 0 := ⟨_, rfl⟩
            have ha0 : 0 ≤ a := by omega
            have ha1 : a < 256 := by omega
            rcases kind_or op hop0 hop1 with h | h | h | h | h
            · omega
            · have hsz : sizeOf op = 1 := by rw [size_of_kind h (by omega)]; rfl
              have HSZ := Lib.hid hsz
              have HRI := Lib.hid (show RightI ⟨P, op, 0, 0, 0⟩ from .inl ⟨h, rfl, rfl, rfl⟩)
              rw [hsz]
              clear hsz h hk hsn
              go_wp2_with (at_builtin; refine wpList_append_own _ rfl (.tmp 85) (.tmp 87) 30 rfl w1.heap.size 26 i0 (.agg #[.int .i64 0, .int .u8 0, .int .i64 0, .int .i64 0, .int .i64 0]) 5 40 Tryd.underlying30 hi hz0 hz1 hz2 rfl (by decide) _ _ _ rfl (HT2.out.below (Bl.al (Bl.al (Below.refl _ _) _) _)).own ⟨w2.heap.size + 1, 0, none⟩ 1 1 (Ins.cells ⟨P, op, 0, 0, 0⟩) rfl rfl (cells_new _ _ _ _ (by simp)) (Ins.cells_one _) (by unfold maxLen; omega) (by omega) (by have := HT2.out.bl.size; simp; omega) ?_; intro v3 w8 hown3 hg3 _q; have HT8 := Lib.hid ((HT2.out.below (Bl.al (Bl.al (Below.refl _ _) _) _)).step (by omega) HRI.out rfl ⟨hop0, hop1⟩ hown3 hg3); clear hown3 hg3)
              go_roundw
              case rel => exact ⟨j + 1, P + 1, l ++ [⟨P, op, 0, 0, 0⟩], by go_num, by go_num, by omega, by have h := HT8.out; rw [show sizeOf (Ins.op ⟨P, op, 0, 0, 0⟩) = 1 from HSZ.out] at h; exact h⟩
              case measure => simp [intOf]; omega
            · have hsz : sizeOf op = 2 := by rw [size_of_kind h (by omega)]; rfl
              have HSZ := Lib.hid hsz
              have HRI := Lib.hid (show RightI ⟨P, op, 0, 0, 0⟩ from .inr (.inl ⟨h, ⟨by simp only; omega, by simp only; omega⟩, rfl, rfl⟩))
              rw [hsz]
              clear hsz h hk hsn
              go_wp2_with (at_builtin; refine wpList_append_own _ rfl (.tmp 85) (.tmp 87) 30 rfl w1.heap.size 26 i0 (.agg #[.int .i64 0, .int .u8 0, .int .i64 0, .int .i64 0, .int .i64 0]) 5 40 Tryd.underlying30 hi hz0 hz1 hz2 rfl (by decide) _ _ _ rfl (HT2.out.below (Bl.al (Bl.al (Below.refl _ _) _) _)).own ⟨w2.heap.size + 1, 0, none⟩ 1 1 (Ins.cells ⟨P, op, 0, 0, 0⟩) rfl rfl (cells_new _ _ _ _ (by simp)) (Ins.cells_one _) (by unfold maxLen; omega) (by omega) (by have := HT2.out.bl.size; simp; omega) ?_; intro v3 w8 hown3 hg3 _q; have HT8 := Lib.hid ((HT2.out.below (Bl.al (Bl.al (Below.refl _ _) _) _)).step (by omega) HRI.out rfl ⟨hop0, hop1⟩ hown3 hg3); clear hown3 hg3)
              go_roundw
              case rel => exact ⟨j + 1, P + 2, l ++ [⟨P, op, 0, 0, 0⟩], by go_num, by go_num, by omega, by have h := HT8.out; rw [show sizeOf (Ins.op ⟨P, op, 0, 0, 0⟩) = 2 from HSZ.out] at h; exact h⟩
              case measure => simp [intOf]; omega
            · have hsz : sizeOf op = 3 := by rw [size_of_kind h (by omega)]; rfl
              have HSZ := Lib.hid hsz
              have HRI := Lib.hid (show RightI ⟨P, op, 0, 0, 0⟩ from .inr (.inr (.inl ⟨h, ⟨by simp only; omega, by simp only; omega⟩, rfl, rfl⟩)))
              rw [hsz]
              clear hsz h hk hsn
              go_wp2_with (at_builtin; refine wpList_append_own _ rfl (.tmp 85) (.tmp 87) 30 rfl w1.heap.size 26 i0 (.agg #[.int .i64 0, .int .u8 0, .int .i64 0, .int .i64 0, .int .i64 0]) 5 40 Tryd.underlying30 hi hz0 hz1 hz2 rfl (by decide) _ _ _ rfl (HT2.out.below (Bl.al (Bl.al (Below.refl _ _) _) _)).own ⟨w2.heap.size + 1, 0, none⟩ 1 1 (Ins.cells ⟨P, op, 0, 0, 0⟩) rfl rfl (cells_new _ _ _ _ (by simp)) (Ins.cells_one _) (by unfold maxLen; omega) (by omega) (by have := HT2.out.bl.size; simp; omega) ?_; intro v3 w8 hown3 hg3 _q; have HT8 := Lib.hid ((HT2.out.below (Bl.al (Bl.al (Below.refl _ _) _) _)).step (by omega) HRI.out rfl ⟨hop0, hop1⟩ hown3 hg3); clear hown3 hg3)
              go_roundw
              case rel => exact ⟨j + 1, P + 3, l ++ [⟨P, op, 0, 0, 0⟩], by go_num, by go_num, by omega, by have h := HT8.out; rw [show sizeOf (Ins.op ⟨P, op, 0, 0, 0⟩) = 3 from HSZ.out] at h; exact h⟩
              case measure => simp [intOf]; omega
            · have hsz : sizeOf op = 5 := by rw [size_of_kind h (by omega)]; rfl
              have HSZ := Lib.hid hsz
              have HRI := Lib.hid (show RightI ⟨P, op, 0, 255, 255⟩ from .inr (.inr (.inr ⟨h, ⟨by simp only; omega, by simp only; omega⟩, ⟨by simp only; omega, by simp only; omega⟩, ⟨by simp only; omega, by simp only; omega⟩⟩)))
              rw [hsz]
              clear hsz h hk hsn
              go_wp2_with (at_builtin; refine wpList_append_own _ rfl (.tmp 85) (.tmp 87) 30 rfl w1.heap.size 26 i0 (.agg #[.int .i64 0, .int .u8 0, .int .i64 0, .int .i64 0, .int .i64 0]) 5 40 Tryd.underlying30 hi hz0 hz1 hz2 rfl (by decide) _ _ _ rfl (HT2.out.below (Bl.al (Bl.al (Below.refl _ _) _) _)).own ⟨w2.heap.size + 1, 0, none⟩ 1 1 (Ins.cells ⟨P, op, 0, 255, 255⟩) rfl rfl (cells_new _ _ _ _ (by simp)) (Ins.cells_one _) (by unfold maxLen; omega) (by omega) (by have := HT2.out.bl.size; simp; omega) ?_; intro v3 w8 hown3 hg3 _q; have HT8 := Lib.hid ((HT2.out.below (Bl.al (Bl.al (Below.refl _ _) _) _)).step (by omega) HRI.out rfl ⟨hop0, hop1⟩ hown3 hg3); clear hown3 hg3)
              go_roundw
              case rel => exact ⟨j + 1, P + 5, l ++ [⟨P, op, 0, 255, 255⟩], by go_num, by go_num, by omega, by have h := HT8.out; rw [show sizeOf (Ins.op ⟨P, op, 0, 255, 255⟩) = 5 from HSZ.out] at h; exact h⟩
              case measure => simp [intOf]; omega
      · obtain rfl : j = na := by omega
        have hjI : ¬ (j : Int) < j := by omega
        have HPUT := Lib.hid HTH.out.put
        have hll := HTH.out.num
        have hPl : ((bytesOf l).length : Int) = P := by have h1 := HTH.out.len; have h2 := HTH.out.pos; omega
        have HPU := Lib.hid (putOf_put HTH.out.op HPUT.out)
        have HTO := Lib.hid (PutOk.told (Int.le_refl 0) (by omega) HTH.out.op HPUT.out)
        have HC1 := Lib.hid (Put_own HTH.out.own (by omega) HTH.out.op)
        unfold PutAPost at HC1
        rw [HPU.out] at HC1
        obtain ⟨Bs, hBs⟩ : ∃ Bs, Bs = bytesOf l := ⟨_, rfl⟩
        have HAL := Lib.hid (show allOf Bs = (l, 0, 0) by rw [hBs]; exact allOf_put HPUT.out)
        have HIB := Lib.hid (show IsBytes Bs by rw [hBs]; exact isBytes_of (bytesOf_is l 0 HTH.out.op HPUT.out))
        have hbm : Bs.length ≤ 20480 := by have := HTH.out.most; rw [hBs]; omega
        rw [← hBs] at HC1 hPl
        clear hBs
        simp only at HC1
        go_wp2_with fail
        refine HC1.out.mono ?_
        rintro e w2 ⟨vb, rfl, hob, hb2⟩
        obtain ⟨ab, cb2, rfl⟩ := G.own_shape hob
        have HT2 := Lib.hid (HTH.out.below hb2)
        have HOB := Lib.hid hob
        clear hob hb2
        have hne1 : ((Bs.length : Int) == P) = true := by rw [beq_iff_eq]; exact hPl
        go_wp2_with fail
        have c3 := All_own HOB.out (by omega) HIB.out
        unfold AllPost at c3
        rw [HAL.out] at c3
        simp only at c3
        refine c3.mono ?_
        rintro e w3 ⟨vm, rfl, hom, hb3⟩
        obtain ⟨am, cm, rfl⟩ := G.own_shape hom
        have HT3 := Lib.hid (HT2.out.below hb3)
        have HOM := Lib.hid hom
        clear c3 hom hb3
        go_wp2_with fail
        refine (Text_own HT3.out.own (by omega) HPUT.out (itoa_below HIT.out (Bl.tr HB1.out HT3.out.bl))).mono ?_
        rintro e w4 ⟨rfl, hb4⟩
        have HT4 := Lib.hid (HT3.out.below hb4)
        have HOM4 := Lib.hid (Bl.own HOM.out hb4)
        have htl := textOf_le l 0 (Int.le_refl 0) HPUT.out
        have HCN := Lib.hid (rows_text l HTO.out)
        have HPA := Lib.hid (parse_text HTO.out (by rw [HPU.out]))
        obtain ⟨T, hT⟩ : ∃ T : ByteArray, T = ⟨(textOf l).toArray⟩ := ⟨_, rfl⟩
        have hTs : T.size ≤ 524288 := by rw [hT]; show (textOf l).length ≤ _; omega
        have HTD := Lib.hid (show T.data.toList = textOf l by rw [hT])
        rw [← hT]
        clear hb4 hT htl
        have c5 := parse_any T w w4 (by omega) HL.out (Bl.tr HB1.out HT4.out.bl)
        unfold ParseP at c5
        rw [HTD.out, HPA.out] at c5
        simp only at c5
        have HC5 := Lib.hid c5
        clear c5
        go_wp2_with fail
        refine HC5.out.mono ?_
        rintro e w5 ⟨vk, rfl, hok, hb5⟩
        obtain ⟨ak, ck, rfl⟩ := G.own_shape hok
        have HT5 := Lib.hid (HT4.out.below hb5)
        have HOM5 := Lib.hid (Bl.own HOM4.out hb5)
        have HOK := Lib.hid hok
        clear hok hb5
        have hTI : (T.size : Int) ≤ 524288 := by omega
        go_wp2_with fail
        go_loop [22, 23] (fun r i => ∃ q : Nat, i = .int .i64 q ∧ q ≤ T.size ∧ r = .int .i64 (((T.data.toList.take q).count 10 : Nat) : Int)) (fun _ i => T.size - (intOf i).toNat)
        case atStart => exact ⟨0, rfl, Nat.zero_le _, by simp⟩
        case round =>
          obtain ⟨q, rfl, hq, rfl⟩ := hrel
          by_cases hqt : q < T.size
          · have hqI : (q : Int) < T.size := by omega
            have hcl : (T.data.toList.take q).count 10 ≤ q := Nat.le_trans List.count_le_length (by simp; omega)
            have hst : (T.data.toList.take (q + 1)).count 10 = (T.data.toList.take q).count 10 + (if T[q] = 10 then 1 else 0) := by
              have e : T.data.toList.take (q + 1) = T.data.toList.take q ++ [T[q]] := by
                rw [List.take_succ_eq_append_getElem (by simpa using hqt)]
                rfl
              rw [e, List.count_append, List.count_singleton]
              by_cases h : T[q] = 10 <;> simp [h]
            have HST := Lib.hid hst
            clear hst
            obtain ⟨cc, hcc⟩ : ∃ cc, cc = (T.data.toList.take q).count 10 := ⟨_, rfl⟩
            rw [← hcc] at hcl HST ⊢
            clear hcc
            by_cases h10 : T[q] = 10
            · have h10I : ((T[q].toNat : Nat) : Int) = 10 := by rw [h10]; rfl
              have H10 := Lib.hid h10
              clear h10
              go_wp2_with fail
              go_round
              case rel => exact ⟨q + 1, by go_num, by omega, by rw [HST.out, if_pos H10.out]; go_num⟩
              case measure => simp [intOf]; omega
            · have h10I : (((T[q].toNat : Nat) : Int) == 10) = false := by
                rw [beq_eq_false_iff_ne]
                intro h
                apply h10
                rw [← UInt8.toNat_inj]
                show T[q].toNat = 10
                omega
              have H10 := Lib.hid h10
              clear h10
              go_wp2_with fail
              go_round
              case rel => exact ⟨q + 1, by go_num, by omega, by rw [HST.out, if_neg H10.out]; go_num⟩
              case measure => simp [intOf]; omega
          · have hqe : q = T.size := by omega
            have hqI : ¬ (q : Int) < T.size := by omega
            have hcnt : (T.data.toList.take q).count 10 = l.length := by
              rw [List.take_of_length_le (by simp; omega), HTD.out]
              exact HCN.out
            rw [hcnt]
            clear hcnt
            go_wp2_with fail
            have c6 := eqInstrs_any am av l.length l.length cm cv l l w5 (rds_own HOM5.out) (rds_own HT5.out.own) (by unfold maxLen; omega) (by unfold maxLen; omega)
            rw [decide_eq_true rfl] at c6
            refine c6.mono ?_
            rintro e w6 ⟨rfl, q6, hw6⟩
            have hb6 : Below w5.heap.size w5 w6 := by rw [hw6]; exact Bl.dn (Below.refl _ _) _
            have HT6 := Lib.hid (HT5.out.below hb6)
            have HOK6 := Lib.hid (Bl.own HOK.out hb6)
            clear c6 hw6 hb6
            go_wp2_with fail
            have c7 := eqInstrs_any ak av l.length l.length ck cv l l w6 (rds_own HOK6.out) (rds_own HT6.out.own) (by unfold maxLen; omega) (by unfold maxLen; omega)
            rw [decide_eq_true rfl] at c7
            refine c7.mono ?_
            rintro e w7 ⟨rfl, q7, hw7⟩
            have HB7 := Lib.hid (Bl.tr HT6.out.bl (show Below w6.heap.size w6 w7 by rw [hw7]; exact Bl.dn (Below.refl _ _) _))
            clear c7 hw7
            go_wp2_with fail
            go_ret
            exact ⟨rfl, Bl.tr HB1.out HB7.out⟩
  · have hg : (4096 : Int) < na ∨ (¬ (4096 : Int) < na ∧ (4096 : Int) < nb) := by omega
    rcases hg with g1 | ⟨g1, g2⟩
    all_goals
      go_wp2_with fail
      go_ret
      exact ⟨rfl, HB1.out⟩
end Go.Proofs.YtfldicaaaadgaaaDoor.Code

/- The replacer of quotes and backslashes at work. -/
import Derived.Test.YtlaikgaepaiigaaGreatDoorKRepD
import Derived.Test.YtlaikgaepaiigaaGreatDoorKQuote
import Derived.Deep.RegionLaw
import Derived.StillTailTactics
import Derived.Deep.RegionHeld3
import Derived.WalkSpells
namespace Go.Proofs.YtlaikgaepaiigaaGreatDoor.K
open Go Go.RowKit
set_option linter.unusedVariables false
set_option linter.unusedSimpArgs false
theorem own_blk {w : World} {base g N : Nat} {e : TypeId} {xs : List Value} (h : w.ownsRow base e 1 (.slice (some ⟨g, 0, none⟩) N N) N xs) : G.Blk w g e xs.toArray := by
  rcases h.2 with ⟨hv, _⟩ | ⟨g', cap, cur, hv, hb, hgg, hnc, hc, hcs, ht⟩
  · cases hv
  · simp only [Value.slice.injEq, Option.some.injEq, Addr.mk.injEq, and_true, true_and] at hv
    obtain ⟨rfl, rfl⟩ := hv
    rw [List.take_of_length_le (by simp; omega)] at ht
    unfold G.Blk
    rw [hgg, ← ht]
theorem size_u8' : ∀ w, (Go.sizeOf 5).run Tryz.prog w = .ok 1 w := fun w => by kernel_rfl
theorem two_cells {w : World} {b : Nat} {u v : Value} (h0 : w.cell? ⟨b, 0 + 0, none⟩ = some u) (h1 : w.cell? ⟨b, 0 + 1, none⟩ = some v) : ∀ j x, [u, v][j]? = some x → w.cell? ((⟨b, 0, none⟩ : Addr).add j) = some x := by
  intro j x hx
  rw [Addr.add_lit]
  match j, hx with
  | 0, hx => cases hx; exact h0
  | 1, hx => cases hx; exact h1
theorem w64 {n m : Nat} {a : Nat} (h : n = m) (hn : n ≤ 65536) (ha : a ≤ 65536) : wrap64 ((m : Int) + (a : Int)) = (n : Int) + a := by
  rw [← h]
  exact IntWalk.wrap64_in _ ⟨by omega, by omega⟩
theorem w64b {n a : Nat} {x : Int} (h : x = (n : Int)) (hn : n ≤ 131072) (ha : a ≤ 65536) : wrap64 (x + (a : Int)) = (n : Int) + a := by
  rw [h]
  exact IntWalk.wrap64_in _ ⟨by omega, by omega⟩
set_option maxRecDepth 100000 in
set_option maxHeartbeats 16000000 in
theorem bsr_any (m B : Nat) (s : ByteArray) (w : World) (hR : RepIn m w B) (hs : s.size ≤ 65536) :
    Calls Tryz.prog 140 #[.pointer (some ⟨B, 0, none⟩), .string s] w fun e w' => e = .returned (.string (quoteB s)) ∧ Below w.heap.size w w' := by
  obtain ⟨i0, hinf, hz0, hz1, hz2⟩ := info_parts infoU8
  obtain ⟨n, hn⟩ : ∃ n, n = s.size := ⟨_, rfl⟩
  have HN := Lib.hid hn
  have hnI : (n : Int) ≤ 65536 := by omega
  have HRI := Lib.hid hR
  obtain ⟨cs, x1, g1, x2, g2, Z, _, hB, e34, e92, enil, e256, hZ, ⟨_, hx1⟩, ⟨_, hx2⟩⟩ := hR
  have HB := Lib.hid (fun q => (hB.below (G.bl_drewN (Below.refl _ _) q) hB.lt : G.Blk (w.drewN q) B _ cs))
  have HZ0 := Lib.hid (fun q => (hZ.below (G.bl_drewN (Below.refl _ _) q)).2 0 (by decide))
  have HZ1 := Lib.hid (fun q => (hZ.below (G.bl_drewN (Below.refl _ _) q)).2 1 (by decide))
  have E34 := Lib.hid e34
  have E92 := Lib.hid e92
  have E256 := Lib.hid e256
  have ENIL := Lib.hid enil
  obtain ⟨K, hK⟩ : ∃ K, K = cntE s.data.toList := ⟨_, rfl⟩
  have HK := Lib.hid hK
  have hKn : K ≤ n := by
    have := cntE_le s.data.toList
    rw [hK, hn]
    simpa using this
  have hKI : (K : Int) ≤ 65536 := by omega
  have hneq := fun (w : World) (A : Option Addr) (n c : Nat) => run_neq_slice_nil_any (P := Tryz.prog) w 32 5 A n c 0 0 Tryz.underlying32
  have c256 := (hB.cell 256).trans e256
  have hrep := hs
  rw [← hn] at hs
  clear hB e34 e92 enil e256 hZ hx1 hx2 hK hn hrep
  go_enter Tryz.func140, Tryz.ntmps140
  go_upto_if 26 with (fail)
  go_cut [5, 6] from 7 to 121 (fun s5 s6 wx => s5 = .int .i64 ((n : Int) + K) ∧ s6 = .bool (decide (0 < K)) ∧ ∃ W q, W = wx ∧ W = w.drewN q)
  case first =>
    by_cases h16 : 16 ≤ s.size
    · have h16I : (16 : Int) ≤ s.size := by omega
      obtain ⟨a, ha⟩ : ∃ a, a = Lib.countByte s.data.toList 34 := ⟨_, rfl⟩
      obtain ⟨b, hb⟩ : ∃ b, b = Lib.countByte s.data.toList 92 := ⟨_, rfl⟩
      have hab : K = a + b := by rw [ha, hb, HK.out]; exact cntE_two _
      have HC1 := Lib.hid (fun W => Tryz.strings_Count_one s 34 W)
      have HC2 := Lib.hid (fun W => Tryz.strings_Count_one s 92 W)
      rw [← ha] at HC1
      rw [← hb] at HC2
      have haI : (a : Int) ≤ 65536 := by omega
      have hbI : (b : Int) ≤ 65536 := by omega
      have ha0 : (0 : Int) ≤ a := by omega
      have hb0 : (0 : Int) ≤ b := by omega
      have HAB := Lib.hid hab
      have z0 := HZ0.out 0
      have z1 := HZ1.out 0
      have c34 := ((HB.out 0).cell 34).trans E34.out
      change w.cell? _ = _ at z0 z1 c34
      simp at z0 z1
      clear ha hb hab
      have e34 : ∀ h, (((⟨#[34]⟩ : ByteArray)[0]'h).toNat : Int) = 34 := fun _ => rfl
      have e92 : ∀ h, (((⟨#[92]⟩ : ByteArray)[0]'h).toNat : Int) = 92 := fun _ => rfl
      have s1 : IntKind.i64.wrap ((n : Int) + a) = (n : Int) + a := IntWalk.i64_in _ (by omega)
      have s2 : IntKind.i64.wrap ((n : Int) + b) = (n : Int) + b := IntWalk.i64_in _ (by omega)
      have s3 : IntKind.i64.wrap ((n : Int) + a + b) = (n : Int) + a + b := IntWalk.i64_in _ (by omega)
      have t1 : IntKind.i64.wrap (a : Int) = a := IntWalk.i64_in _ (by omega)
      have t2 : IntKind.i64.wrap (b : Int) = b := IntWalk.i64_in _ (by omega)
      go_wp2_with fail
      refine wp_loop_rounds 3 ?_
      rw [rounds_succ]
      go_wp2_with fail
      refine (HC1.out _).mono ?_
      rintro e wq ⟨rfl, hwq⟩
      obtain rfl : w = wq := hwq.symm
      rcases Nat.eq_zero_or_pos a with ha | ha
      · subst ha
        go_wp2_with fail
        rw [rounds_succ]
        go_wp2_with fail
        refine (HC2.out _).mono ?_
        rintro e wq ⟨rfl, hwq⟩
        obtain rfl : w = wq := hwq.symm
        rcases Nat.eq_zero_or_pos b with hb | hb
        · subst hb
          clear s1 s2 s3 t1 t2
          go_wp2_with fail
          rw [rounds_succ]
          go_wp2_with fail
          go_meet
          case rel => exact ⟨by rw [HAB.out]; rw [HN.out]; simp, by rw [HAB.out]; simp, _, 0, rfl, rfl⟩
        · have nb : ((b : Int) != 0) = true := by simp; omega
          have c92 := ((HB.out 0).cell 92).trans E92.out
          change w.cell? _ = _ at c92
          go_wp2_with fail
          go_quiet (fail)
          clear s1 s2 s3 t1 t2
          go_wp2_with fail
          rw [rounds_succ]
          go_wp2_with fail
          go_meet
          case rel => exact ⟨by rw [HAB.out]; rw [w64 HN.out (by omega) (by omega)]; simp, by rw [HAB.out]; simp [hb], _, _, rfl, rfl⟩
      · have na : ((a : Int) != 0) = true := by simp; omega
        go_wp2_with fail
        go_quiet (fail)
        go_wp2_with fail
        have z1 := HZ1.out nq
        simp at z1
        rw [rounds_succ]
        go_wp2_with fail
        refine (HC2.out _).mono ?_
        rintro e wq ⟨rfl, hwq⟩
        obtain rfl : w.drewN nq = wq := hwq.symm
        rcases Nat.eq_zero_or_pos b with hb | hb
        · subst hb
          clear s1 s2 s3 t1 t2
          go_wp2_with fail
          rw [rounds_succ]
          go_wp2_with fail
          go_meet
          case rel => exact ⟨by rw [HAB.out]; rw [w64 HN.out (by omega) (by omega)]; simp, by rw [HAB.out]; simp [ha], _, nq, rfl, rfl⟩
        · have nb : ((b : Int) != 0) = true := by simp; omega
          have c92 := ((HB.out nq).cell 92).trans E92.out
          try simp at c92
          go_wp2_with fail
          go_quiet (fail)
          clear s1 s2 s3 t1 t2
          go_wp2_with fail
          rw [rounds_succ]
          go_wp2_with fail
          go_meet
          case rel => exact ⟨by rw [HAB.out]; rw [w64 HN.out (by omega) (by omega), w64b (n := n + a) (by omega) (by omega) (by omega)]; simp; omega, by rw [HAB.out]; simp; omega, _, _, rfl, rfl⟩
    · have h16I : ¬ (16 : Int) ≤ s.size := by omega
      have hnn : (n : Int) = s.size := by rw [HN.out]
      have HNN := Lib.hid hnn
      have hsI : (s.size : Int) ≤ 65536 := by omega
      clear hnn
      go_wp2_with fail
      go_loop [5, 6, 10] (fun u5 u6 u10 => ∃ i : Nat, u10 = .int .i64 i ∧ i ≤ s.size ∧ u5 = .int .i64 ((s.size : Int) + (cntE (s.data.toList.take i) : Nat)) ∧ u6 = .bool (decide (0 < cntE (s.data.toList.take i)))) (fun _ _ u10 => s.size - (intOf u10).toNat)
      case atStart => exact ⟨0, rfl, Nat.zero_le _, by simp [cntE], by simp [cntE]⟩
      case round =>
        obtain ⟨i, rfl, hi, rfl, rfl⟩ := hrel
        have hi0 : (0 : Int) ≤ i := by omega
        have hcl := cntE_le (s.data.toList.take i)
        have htl : (s.data.toList.take i).length ≤ i := List.length_take_le _ _
        by_cases hlt : i < s.size
        · have hltI : (i : Int) < s.size := by omega
          have hsn := cntE_snoc (s.data.toList.take i) s[i]
          rw [← take_snoc_b s hlt] at hsn
          have he := escB_iff s[i]
          have hy := UInt8.toNat_lt s[i]
          obtain ⟨C, hC⟩ : ∃ C, C = cntE (s.data.toList.take i) := ⟨_, rfl⟩
          rw [← hC] at hsn hcl ⊢
          have hCI : (C : Int) ≤ 65536 := by omega
          have hC0 : (0 : Int) ≤ C := by omega
          clear hC
          by_cases hq : (s[i].toNat : Int) = 34 ∨ (s[i].toNat : Int) = 92
          · rw [he.2 hq] at hsn
            have HSN := Lib.hid hsn
            have hs1 : (s.size : Int) + C ≤ 131072 := by omega
            clear hsn he
            rcases hq with hq | hq
            · have hq' : s[i].toNat = 34 := by omega
              have c34 := ((HB.out 0).cell 34).trans E34.out
              change w.cell? _ = _ at c34
              clear hq hy
              go_wp2_with fail
              go_round
              case rel => exact ⟨i + 1, by go_num, by omega, by rw [HSN.out]; go_num, by rw [HSN.out]; simp⟩
              case measure => simp [intOf]; omega
            · have hq' : s[i].toNat = 92 := by omega
              have c92 := ((HB.out 0).cell 92).trans E92.out
              change w.cell? _ = _ at c92
              clear hq hy
              go_wp2_with fail
              go_round
              case rel => exact ⟨i + 1, by go_num, by omega, by rw [HSN.out]; go_num, by rw [HSN.out]; simp⟩
              case measure => simp [intOf]; omega
          · have hef : escB s[i] = false := by
              cases hz : escB s[i] with
              | false => rfl
              | true => exact absurd (he.1 hz) hq
            rw [hef] at hsn
            have HSN := Lib.hid hsn
            have cy := ((HB.out 0).cell s[i].toNat).trans (ENIL.out _ (by omega) (by omega) (by omega))
            change w.cell? _ = _ at cy
            have hyI : (s[i].toNat : Int) < 256 := by omega
            clear hsn he hef hq
            go_wp2_with fail
            go_round
            case rel => exact ⟨i + 1, by go_num, by omega, by rw [HSN.out]; simp, by rw [HSN.out]; simp⟩
            case measure => simp [intOf]; omega
        · have hltI : ¬ (i : Int) < s.size := by omega
          obtain rfl : i = s.size := by omega
          have HTK := Lib.hid (show s.data.toList.take s.size = s.data.toList from List.take_of_length_le (by simp))
          go_wp2_with fail
          go_meet
          case rel => exact ⟨by rw [HTK.out, ← HK.out, HN.out], by rw [HTK.out, ← HK.out], _, 0, rfl, rfl⟩
  case rest =>
    obtain ⟨rfl, rfl, wx, q, rfl, hwx⟩ := hcut
    have hbx : Below w.heap.size w wx := by rw [hwx]; exact G.bl_drewN (Below.refl _ _) q
    have HBX := Lib.hid hbx
    have HRX := Lib.hid (HRI.out.below hbx)
    clear hwx hbx c256
    rcases Nat.eq_zero_or_pos K with hK0 | hK0
    · have hd : decide (0 < K) = false := by simp; omega
      have HQ := Lib.hid (show quoteB s = s by
        unfold quoteB
        rw [quoteL_none (by rw [← HK.out]; exact hK0)])
      clear hK0
      go_wp2_with fail
      go_ret
      exact ⟨by rw [HQ.out]; rfl, HBX.out⟩
    · have hd : decide (0 < K) = true := by simp; omega
      obtain ⟨N, hN⟩ : ∃ N, N = n + K := ⟨_, rfl⟩
      have HQL := Lib.hid (show (quoteL s.data.toList).length = N by
        rw [quoteL_length, hN, HN.out, HK.out]
        simp)
      have HNE := Lib.hid hN
      have hNI : (N : Int) ≤ 131072 := by omega
      rw [show ((n : Int) + (K : Int)) = (N : Int) by omega]
      clear hK0 hN
      go_wp2_with (refine wpList_make_full _ rfl _ _ 32 rfl wx.heap.size 5 i0 _ 1 Tryz.underlying32 hinf hz0 hz1 .i64 .i64 _ _ N rfl rfl (by simp) (by simp) (by rw [hz2]; omega) (by unfold maxLen; omega) (Nat.le_refl _) ?_; intro w1 ho1 hg1)
      have hb1 : Below wx.heap.size wx w1 := (Below.refl _ _).grown hg1 (Nat.le_refl _) (by simp)
      have hz : (madeCells (Value.int .u8 0).cells (N * 1)).toList = List.replicate N (.int .u8 0) := by
        rw [show (Value.int .u8 0).cells = #[.int .u8 0] from rfl, toList_madeCells_one, Nat.mul_one]
      rw [hz] at ho1
      have HB1 := Lib.hid hb1
      have HBF := Lib.hid (show G.Blk w1 wx.heap.size 5 (bufL s N 0).toArray by rw [bufL_zero]; exact own_blk ho1)
      obtain ⟨g, hg⟩ : ∃ g, g = wx.heap.size := ⟨_, rfl⟩
      rw [← hg] at HBF ⊢
      have HG := Lib.hid hg
      clear hz ho1 hg1 hb1 hg
      have hsz8 : (Tryz.prog.info? 5).map (·.size) = some 1 := by kernel_rfl
      go_loopw [13, 14] (fun u13 u14 wr => ∃ k : Nat, u14 = .int .i64 k ∧ k ≤ s.size ∧ u13 = .int .i64 ((quoteL (s.data.toList.take k)).length : Nat) ∧ G.Blk wr g 5 (bufL s N k).toArray ∧ Below wx.heap.size wx wr) (fun _ u14 _ => s.size - (intOf u14).toNat)
      case atStart => exact ⟨0, rfl, Nat.zero_le _, rfl, HBF.out, HB1.out⟩
      case round =>
        obtain ⟨i, rfl, hi, rfl, hbk, hbel⟩ := hrel
        have hi0 : (0 : Int) ≤ i := by omega
        have HBK := Lib.hid hbk
        have HBL := Lib.hid hbel
        have hsI : (s.size : Int) ≤ 65536 := by have := HN.out; omega
        by_cases hlt : i < s.size
        · have hltI : (i : Int) < s.size := by omega
          have hle := quote_le s (i + 1)
          rw [HQL.out] at hle
          have hsn := congrArg List.length (show quoteL (s.data.toList.take (i + 1)) = _ by rw [take_snoc_b s hlt, quoteL_snoc])
          rw [List.length_append] at hsn
          have he := escB_iff s[i]
          have hy := UInt8.toNat_lt s[i]
          have hyI : (s[i].toNat : Int) < 256 := by omega
          have hesc := bufL_esc (N := N) hlt
          have hpl := bufL_plain (N := N) hlt
          obtain ⟨j, hj⟩ : ∃ j, j = (quoteL (s.data.toList.take i)).length := ⟨_, rfl⟩
          rw [← hj] at hsn hesc hpl ⊢
          have hj0 : (0 : Int) ≤ j := by omega
          have HJ := Lib.hid hj
          clear hj hbk hbel
          by_cases hq : (s[i].toNat : Int) = 34 ∨ (s[i].toNat : Int) = 92
          · have hz := he.2 hq
            have hl2 : (esc1 s[i]).length = 2 := by unfold esc1; rw [hz]; rfl
            have HNX := Lib.hid (hesc hz hle)
            rw [hl2] at hsn
            have HSN := Lib.hid hsn
            have hjN : j + 2 ≤ N := by omega
            have hjNI : (j : Int) + 2 ≤ N := by omega
            have hjle : (j : Int) ≤ N := by omega
            have hNj : ¬ N = j := by omega
            have wj : IntKind.i64.wrap ((j : Int) + 2) = (j : Int) + 2 := IntWalk.i64_in _ (by omega)
            clear hesc hpl hsn hz he hle hl2
            obtain ⟨cs', y1, h1, y2, h2, Z', _, hB', f34, f92, _, _, _, ⟨hx1l, hx1⟩, ⟨hx2l, hx2⟩⟩ := HRX.out.below HBL.out
            have hBl : B < wx.heap.size := by
              obtain ⟨_, _, _, _, _, _, _, hq0, _⟩ := HRX.out
              exact hq0.lt
            have HCE := Lib.hid (fun (o : Nat) W (h : Below wx.heap.size wx W) => show W.cell? ⟨B, o, none⟩ = cs'[o]? from (h.cell (p := ⟨B, o, none⟩) hBl).trans ((G.Blk.same hB' (HBL.out.block B hBl).symm).cell o))
            have F34 := Lib.hid f34
            have F92 := Lib.hid f92
            rcases hq with hq | hq
            · have hq' : s[i].toNat = 34 := by omega
              have hcc := (hB'.cell 34).trans f34
              have hb0 := hx1 0 (by decide)
              have hb1 := hx1 1 (by decide)
              rw [hq'] at HNX
              change Hid (splice (bufL s N i) j [.int .u8 92, .int .u8 34] = _) at HNX
              have hsli : ∀ w : World, (Instr.slice 32 (.slice (some ⟨g, 0, none⟩) N N) (some (.int .i64 (j : Int))) none none).run Tryz.prog w = .ok (.slice (some ⟨g, j, none⟩) (N - j) (N - j)) w := fun w => by
                have ht' : Tryz.prog.underlying 32 = some (.slice (Tryz.prog.elem 32)) := by simp [Program.elem, Tryz.underlying32]
                have he : Tryz.prog.elem 32 = 5 := by simp [Program.elem, Tryz.underlying32]
                rw [run_slice_l w 32 _ N N ht' .i64 _ (by omega) (by omega), he, size_u8']
                simp only [Result.andThen, sliced, Int.toNat_natCast, if_neg hNj, Option.map_some, Addr.add_lit, Nat.mul_one, Nat.zero_add]
              clear hq hy hyI hB' f34 f92 hx1 hx2
              go_upto_region 28 with (fail)
              have HD := Lib.hid (show G.Blk wr.drew g 5 (bufL s N i).toArray from HBK.out)
              have HMN := Lib.hid (show 2 = min 2 (N - j) by omega)
              have hgx : wx.heap.size ≤ g := by have := HG.out; omega
              have hbl : j + 2 ≤ (bufL s N i).length := by rw [bufL_length (by have := HJ.out; omega)]; exact hjN
              go_region_held3 (fun W => W.cell? ⟨B, 34, none⟩ = some (.slice (some ⟨y1, 0, none⟩) 2 h1)) (first | go_keep | exact (HCE.out 34 _ (by assumption)).trans F34.out) ((refine step_copy_splice rfl (.tmp 105) (.tmp 111) 32 32 rfl 5 Tryz.underlying32 hsz8 (some ⟨g, j, none⟩) (some ⟨y1, 0, none⟩) (N - j) (N - j) 2 h1 (by rfl) (by rfl) g j (bufL s N i) 5 HD.out [.int .u8 92, .int .u8 34] HMN.out (fun _ => ⟨rfl, _, rfl, two_cells hb0 hb1⟩) hbl (by intro v hv; simp at hv; rcases hv with rfl | rfl <;> rfl) wx.heap.size wx (HBL.out.drew) hgx ?_; intro w5 h5 hb5))
              have HNB := Lib.hid (show G.Blk w5 g 5 (bufL s N (i + 1)).toArray by rw [← HNX.out]; exact h5.out)
              have HBN := Lib.hid hb5
              clear h5 hb5
              go_wp2_with fail
              go_roundw
              case rel => exact ⟨i + 1, by go_num, by omega, by rw [HSN.out]; go_num, HNB.out, HBN.out⟩
              case measure => simp [intOf]; omega
            · have hq' : s[i].toNat = 92 := by omega
              have hcc := (hB'.cell 92).trans f92
              have hb0 := hx2 0 (by decide)
              have hb1 := hx2 1 (by decide)
              rw [hq'] at HNX
              change Hid (splice (bufL s N i) j [.int .u8 92, .int .u8 92] = _) at HNX
              have hsli : ∀ w : World, (Instr.slice 32 (.slice (some ⟨g, 0, none⟩) N N) (some (.int .i64 (j : Int))) none none).run Tryz.prog w = .ok (.slice (some ⟨g, j, none⟩) (N - j) (N - j)) w := fun w => by
                have ht' : Tryz.prog.underlying 32 = some (.slice (Tryz.prog.elem 32)) := by simp [Program.elem, Tryz.underlying32]
                have he : Tryz.prog.elem 32 = 5 := by simp [Program.elem, Tryz.underlying32]
                rw [run_slice_l w 32 _ N N ht' .i64 _ (by omega) (by omega), he, size_u8']
                simp only [Result.andThen, sliced, Int.toNat_natCast, if_neg hNj, Option.map_some, Addr.add_lit, Nat.mul_one, Nat.zero_add]
              clear hq hy hyI hB' f34 f92 hx1 hx2
              go_upto_region 28 with (fail)
              have HD := Lib.hid (show G.Blk wr.drew g 5 (bufL s N i).toArray from HBK.out)
              have HMN := Lib.hid (show 2 = min 2 (N - j) by omega)
              have hgx : wx.heap.size ≤ g := by have := HG.out; omega
              have hbl : j + 2 ≤ (bufL s N i).length := by rw [bufL_length (by have := HJ.out; omega)]; exact hjN
              go_region_held3 (fun W => W.cell? ⟨B, 92, none⟩ = some (.slice (some ⟨y2, 0, none⟩) 2 h2)) (first | go_keep | exact (HCE.out 92 _ (by assumption)).trans F92.out) ((refine step_copy_splice rfl (.tmp 105) (.tmp 111) 32 32 rfl 5 Tryz.underlying32 hsz8 (some ⟨g, j, none⟩) (some ⟨y2, 0, none⟩) (N - j) (N - j) 2 h2 (by rfl) (by rfl) g j (bufL s N i) 5 HD.out [.int .u8 92, .int .u8 92] HMN.out (fun _ => ⟨rfl, _, rfl, two_cells hb0 hb1⟩) hbl (by intro v hv; simp at hv; rcases hv with rfl | rfl <;> rfl) wx.heap.size wx (HBL.out.drew) hgx ?_; intro w5 h5 hb5))
              have HNB := Lib.hid (show G.Blk w5 g 5 (bufL s N (i + 1)).toArray by rw [← HNX.out]; exact h5.out)
              have HBN := Lib.hid hb5
              clear h5 hb5
              go_wp2_with fail
              go_roundw
              case rel => exact ⟨i + 1, by go_num, by omega, by rw [HSN.out]; go_num, HNB.out, HBN.out⟩
              case measure => simp [intOf]; omega
          · have hz : escB s[i] = false := by
              cases hz : escB s[i] with
              | false => rfl
              | true => exact absurd (he.1 hz) hq
            have hl2 : (esc1 s[i]).length = 1 := by unfold esc1; rw [hz]; rfl
            have hnx := hpl hz hle
            rw [hl2] at hsn
            have HSN := Lib.hid hsn
            have hjN : (j : Int) < N := by omega
            clear hesc hpl hz he hl2
            obtain ⟨cs', y1, h1, y2, h2, Z', _, hB', _, _, fnil, _, _, _, _⟩ := HRX.out.below HBL.out
            have cy := (hB'.cell s[i].toNat).trans (fnil _ (by omega) (by omega) (by omega))
            have cj : ∃ y, wr.cell? ⟨g, j, none⟩ = some y := by
              refine ⟨(bufL s N i)[j]'(by rw [bufL_length (by have := HJ.out; omega)]; omega), ?_⟩
              rw [HBK.out.cell j]
              simp
            obtain ⟨y0, cj⟩ := cj
            have lj := HBK.out.frozen j
            have HNB := Lib.hid (show G.Blk (wr.setCell ⟨g, j, none⟩ (.int .u8 (s[i].toNat : Int))) g 5 (bufL s N (i + 1)).toArray by
              have := HBK.out.put j (.int .u8 (s[i].toNat : Int))
              rw [← hnx]
              simpa using this)
            have HBN := Lib.hid (show Below wx.heap.size wx (wr.setCell ⟨g, j, none⟩ (.int .u8 (s[i].toNat : Int))) from G.bl_set HBL.out (by have := HG.out; simp; omega) _)
            clear fnil hq hsn hnx hB' hle
            go_wp2_with fail
            go_roundw
            case rel => exact ⟨i + 1, by go_num, by omega, by rw [HSN.out]; go_num, HNB.out, HBN.out⟩
            case measure => simp [intOf]; omega
        · have hltI : ¬ (i : Int) < s.size := by omega
          obtain rfl : i = s.size := by omega
          have hst := own_string (B := 0) (out := quoteL s.data.toList) (v := .slice (some ⟨g, 0, none⟩) N N) (w := wr) (by
            have h1 := HBK.out
            rw [bufL_full HQL.out] at h1
            have := h1.own (base := 0) (sz := 1) (n := N) (cap := N) (Nat.zero_le _) (Nat.le_refl _) (by unfold maxLen; omega) (by simp [u8L_length, HQL.out])
            rw [HQL.out]
            simpa [List.take_of_length_le, u8L_length, HQL.out] using this)
          clear hbk hbel
          go_wp2_with fail
          go_ret
          exact ⟨rfl, HBX.out.trans (HBL.out.mono HBX.out.size)⟩
end Go.Proofs.YtlaikgaepaiigaaGreatDoor.K

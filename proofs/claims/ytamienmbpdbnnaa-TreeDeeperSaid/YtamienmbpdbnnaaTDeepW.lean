/- The walk of tableaulaw09.TreeDeeper. -/
import Derived.Test.YtamienmbpdbnnaaTCom
import Derived.Test.YtamienmbpdbnnaaTDeep
import Derived.Deep.Cut
import Derived.Deep.CutRange
namespace Go.Proofs.Ytamienmbpdbnnaa.T
open Go Go.RowKit
set_option linter.unusedVariables false
set_option linter.unusedSimpArgs false
theorem one1_is (t : List Nd) : oneL [] t = one1 t := by
  unfold oneL one1
  rw [if_pos rfl, List.append_nil]
  rfl
theorem one_any1 (B : Option Addr) (m d : Nat) (t : List Nd) (w : World) (ht : Src w B m d t) (hm : m ≤ 16777216) :
    Calls Try.prog 24 #[.slice none 0 0, .slice B m d] w fun e w' => ∃ A c, e = .returned (.slice A (m + 3) c) ∧ w'.ownsRow w.heap.size 33 7 (.slice A (m + 3) c) (m + 3) (flat (one1 t)) ∧ Below w.heap.size w w' :=
  (one_any none B 0 0 m d [] t w (.inl ⟨rfl, rfl, rfl, rfl⟩) ht (by omega) hm).mono fun e w' ⟨A, c, he, ho, hb⟩ => by
    have hl := ht.len
    have e1 : 3 + ([] : List Nd).length + t.length = m + 3 := by simp; omega
    rw [e1] at he ho
    rw [one1_is] at ho
    exact ⟨A, c, he, ho, hb⟩
theorem Small.one1 {l : List Nd} (h : Small l) : Small (one1 l) := by
  refine Small.app (fun x hx => ?_) h
  simp only [List.mem_cons, List.mem_nil_iff, or_false] at hx
  rcases hx with rfl | rfl | rfl <;> exact ⟨by decide, by decide⟩
theorem Small.rng {f : Nat → List Nd} (h : ∀ i, Small (f i)) (n : Nat) : Small ((List.range n).flatMap f) := fun x hx => by
  obtain ⟨i, _, hi⟩ := List.mem_flatMap.1 hx
  exact h i x hi
theorem Small.allL {l : List Nd} (h : Small l) (a b c : Nat) : Small (allL a b c l) := by
  refine (Small.rng (fun _ => ?_) _).app ((Small.rng (fun _ => ?_) _).app (Small.app ?_ ((Small.rng (fun _ => ?_) _).app h)))
  · intro x hx
    simp only [List.mem_cons, List.mem_nil_iff, or_false] at hx
    rcases hx with rfl | rfl | rfl <;> exact ⟨by decide, by decide⟩
  · intro x hx
    simp only [List.mem_cons, List.mem_nil_iff, or_false] at hx
    rcases hx with rfl | rfl
    · exact ⟨by decide, by decide⟩
    · exact ⟨by show (1 : Nat) ≤ _; omega, by show (1 : Int) ≤ _; omega⟩
  · intro x hx
    split at hx
    · obtain rfl := List.mem_singleton.1 hx; exact ⟨by decide, by decide⟩
    · cases hx
  · intro x hx
    simp only [List.mem_cons, List.mem_nil_iff, or_false] at hx
    rcases hx with rfl | rfl | rfl <;> exact ⟨by decide, by decide⟩
theorem deep_len (a b c : Nat) (l : List Nd) : (allL a b c l).length = 3 * a + 2 * b + (if 0 < c then 1 else 0) + 3 * c + l.length := by
  unfold allL
  simp only [List.length_append, flatMap_len (fun _ => [blN 1, ifN 2, trN]) 3 (fun _ => rfl), flatMap_len (fun i : Nat => [blN 1, repN (i : Int)]) 2 (fun _ => rfl), flatMap_len (fun _ => [ifN 3, faN, blN 0]) 3 (fun _ => rfl)]
  split
  · simp only [List.length_cons, List.length_nil]; omega
  · simp only [List.length_nil]; omega
theorem rng_snoc (f : Nat → List Nd) (q : Nat) : (List.range (q + 1)).flatMap f = (List.range q).flatMap f ++ f q := by simp [List.range_succ]
set_option maxRecDepth 100000 in
set_option maxHeartbeats 8000000 in
theorem deeper_walk (A : Option Addr) (c : Nat) (xs : List Nd) (pi pr pe : Int) (w : World) (hx : Src w A xs.length c xs) (hxn : xs.length ≤ 140737488355328)
    (hxf : ∀ x ∈ xs, NdFit x) (hci : ContIn w) :
    Calls Try.prog 6 #[.slice A xs.length c, .int .i64 pi, .int .i64 pr, .int .i64 pe] w (LivesPost w) := by
  have HX := Lib.hid hx
  have HCI := Lib.hid hci
  have HXF := Lib.hid hxf
  have HB1 := Lib.hid (beyond_any A xs.length c xs w rfl hxn hx.rd (fun x h => (hxf x h).text))
  unfold LivesPost
  unfold BeyondPost at HB1
  have HLV := Lib.hid (fun W (h : Below w.heap.size w W) => lives_any W (HCI.out.below h))
  unfold LivesPost at HLV
  clear hx hci hxf
  by_cases hin : 0 ≤ pi ∧ 0 ≤ pr ∧ 0 ≤ pe ∧ pi ≤ 80 ∧ pr ≤ 80 ∧ pe ≤ 80
  · obtain ⟨g1, g2, g3, g4, g5, g6⟩ := hin
    obtain ⟨i, rfl⟩ : ∃ i : Nat, pi = i := ⟨pi.toNat, by omega⟩
    obtain ⟨r, rfl⟩ : ∃ r : Nat, pr = r := ⟨pr.toNat, by omega⟩
    obtain ⟨s, rfl⟩ : ∃ s : Nat, pe = s := ⟨pe.toNat, by omega⟩
    go_enter Try.func6, Try.ntmps6
    go_wp2_with fail
    refine HB1.out.mono ?_
    rintro e w1 ⟨b1, rfl, rfl, h1⟩
    cases b1 with
    | true =>
      clear h1
      go_wp2_with fail
      go_ret
      exact ⟨rfl, Below.refl _ _⟩
    | false =>
      have hxl : xs.length ≤ 65536 := (h1 rfl).1
      have HSM := Lib.hid (show Small xs from fun x hx => ⟨(h1 rfl).2 x hx, (HXF.out x hx).kids.2⟩)
      clear h1
      have hxm : xs.length ≤ 16777216 := by omega
      have HCP := Lib.hid (fun W (A : Option Addr) (n c : Nat) (t : List Nd) (hn : t.length = n) (hm : n ≤ 1099511627776) (hr : G.RdS W A 7 n (flat t)) => copy_any A n c t W hn hm hr)
      have HON := Lib.hid (fun W (B : Option Addr) (m d : Nat) (t : List Nd) (ht : Src W B m d t) (hm : m ≤ 16777216) => one_any1 B m d t W ht hm)
      have HDP := Lib.hid (fun W (A : Option Addr) (n c : Nat) (t : List Nd) (hn : t.length = n) (hm : n ≤ 16777216) (hr : G.RdS W A 7 n (flat t)) (hb : Below w.heap.size w W) (ht : Small t) => depth_any A n c t W hn hm hr (HCI.out.below hb) ht)
      have HWT := Lib.hid (fun W (A : Option Addr) (n c : Nat) (t : List Nd) (hn : t.length = n) (hm : n ≤ 16777216) (hr : G.RdS W A 7 n (flat t)) (hb : Below w.heap.size w W) (ht : Small t) => weight_any A n c t W hn hm hr (HCI.out.below hb) ht)
      have HCK := Lib.hid (fun W (A : Option Addr) (n c : Nat) (t : List Nd) (hn : t.length = n) (hm : n ≤ 16777216) (hr : G.RdS W A 7 n (flat t)) (hb : Below w.heap.size w W) (ht : Small t) => check_any A n c t W hn hm hr (HCI.out.below hb) ht)
      unfold DepPost at HDP HWT
      unfold ChkPost at HCK
      have HL0 := Lib.hid (show (one1 xs).length = xs.length + 3 by simp [one1])
      go_wp2_with fail
      refine (HCP.out w A xs.length c xs rfl (by omega) HX.out.rd).mono ?_
      rintro e w2 ⟨B2, d2, rfl, ho2, hb2⟩
      have HW2 := Lib.hid hb2
      have HS2 := Lib.hid (Src.of_own ho2 rfl)
      clear ho2 hb2
      go_wp2_with fail
      refine (HON.out w2 B2 xs.length d2 xs HS2.out hxm).mono ?_
      rintro e w3 ⟨B3, d3, rfl, ho3, hb3⟩
      have HW3 := Lib.hid (G.bl_trans HW2.out hb3)
      have HR3 := Lib.hid (G.RdS.of_own ho3)
      clear ho3 hb3
      go_wp2_with fail
      refine (HCP.out w3 B3 (xs.length + 3) d3 (one1 xs) HL0.out (by omega) HR3.out).mono ?_
      rintro e w4 ⟨B4, d4, rfl, ho4, hb4⟩
      have HW4 := Lib.hid (G.bl_trans HW3.out hb4)
      have HR4 := Lib.hid (G.RdS.of_own ho4)
      have HR34 := Lib.hid (HR3.out.below hb4)
      clear ho4 hb4
      go_wp2_with fail
      refine (HCK.out w4 B4 (xs.length + 3) d4 (one1 xs) HL0.out (by omega) HR4.out HW4.out HSM.out.one1).mono ?_
      rintro e w5 ⟨he, hb5⟩
      have HW5 := Lib.hid (G.bl_trans HW4.out hb5)
      have HR35 := Lib.hid (HR34.out.below hb5)
      clear hb5
      have hce := checkE_cases (one1 xs)
      generalize checkE (one1 xs) = E at he hce
      generalize checkP (one1 xs) = PP at he
      rcases hce with rfl | rfl | ⟨rfl, hsh, hd64⟩
      · subst he
        go_wp2_with fail
        refine (HLV.out w5 HW5.out).mono ?_
        rintro e w6 ⟨rfl, hb6⟩
        have HW6 := Lib.hid (G.bl_trans HW5.out hb6)
        clear hb6
        go_wp2_with fail
        go_ret
        exact ⟨rfl, HW6.out⟩
      · subst he
        go_wp2_with fail
        refine (HLV.out w5 HW5.out).mono ?_
        rintro e w6 ⟨rfl, hb6⟩
        have HW6 := Lib.hid (G.bl_trans HW5.out hb6)
        clear hb6
        go_wp2_with fail
        go_ret
        exact ⟨rfl, HW6.out⟩
      · subst he
        have HLAW := Lib.hid (deeper_law (block := xs) (ifs := i) (rounds := r) (elses := s) (by omega) hsh)
        have hd0 := depth_nn (one1 xs)
        have HWE := Lib.hid (one1_weight hsh)
        clear hsh
        obtain ⟨D, hD⟩ : ∃ D, D = depthOf (one1 xs) := ⟨_, rfl⟩
        rw [← hD] at hd64 hd0 HLAW
        have HDD := Lib.hid hD
        clear hD
        go_wp2_with fail
        refine (HCP.out w5 B3 (xs.length + 3) d3 (one1 xs) HL0.out (by omega) HR35.out).mono ?_
        rintro e w6 ⟨B6, d6, rfl, ho6, hb6⟩
        have HW6 := Lib.hid (G.bl_trans HW5.out hb6)
        have HR6 := Lib.hid (G.RdS.of_own ho6)
        have HR36 := Lib.hid (HR35.out.below hb6)
        clear ho6 hb6
        go_wp2_with fail
        refine (HDP.out w6 B6 (xs.length + 3) d6 (one1 xs) HL0.out (by omega) HR6.out HW6.out HSM.out.one1).mono ?_
        rintro e w7 ⟨he, hb7⟩
        rw [← HDD.out] at he
        subst he
        have HW7 := Lib.hid (G.bl_trans HW6.out hb7)
        have HR37 := Lib.hid (HR36.out.below hb7)
        clear hb7
        go_wp2_with fail
        refine (HCP.out w7 B3 (xs.length + 3) d3 (one1 xs) HL0.out (by omega) HR37.out).mono ?_
        rintro e w8 ⟨B8, d8, rfl, ho8, hb8⟩
        have HW8 := Lib.hid (G.bl_trans HW7.out hb8)
        have HR8 := Lib.hid (G.RdS.of_own ho8)
        clear ho8 hb8
        go_wp2_with fail
        refine (HWT.out w8 B8 (xs.length + 3) d8 (one1 xs) HL0.out (by omega) HR8.out HW8.out HSM.out.one1).mono ?_
        rintro e w9 ⟨he, hb9⟩
        rw [HWE.out] at he
        subst he
        have HW9 := Lib.hid (G.bl_trans HW8.out hb9)
        have hz9 := HW9.out.size
        clear hb9
        go_wp2_with fail
        go_loopw [14, 15] (fun l k wr => ∃ q : Nat, q ≤ i ∧ k = .int .i64 q ∧ wr.ownsRow w.heap.size 33 7 l (3 * q) (flat ((List.range q).flatMap (fun _ => [blN 1, ifN 2, trN]))) ∧ Below w.heap.size w wr) (fun _ k _ => i - (intOf k).toNat)
        case atStart => exact ⟨0, Nat.zero_le _, rfl, World.ownsRow_nil _ _ _ _, HW9.out⟩
        case round =>
          obtain ⟨q, hq, rfl, hO, hB⟩ := hrel
          have HO := Lib.hid hO
          have HB := Lib.hid hB
          have hz := hB.size
          clear hO hB
          by_cases hlt : q < i
          · have hlt1 : (q : Int) < i := by omega
            go_wp2_with (at_builtin; refine wpList_app_new rfl (.tmp 72) (.tmp 76) rfl w.heap.size _ (3 * q) _ rfl (HO.out.alloc _) 3 3 wr.heap.size [blN 1, ifN 2, trN] _ rfl rfl (G.Blk.new wr _ _) rfl (by omega) (by simp; omega) ?_; intro v1 w1 ht1 hb1; have HO1 := Lib.hid ht1; have HB1 := Lib.hid (bl_base (G.bl_alloc HB.out _) hb1); clear ht1 hb1)
            go_roundw
            case rel => exact ⟨q + 1, by omega, by go_num, by rw [rng_snoc]; exact HO1.out, HB1.out⟩
            case measure => simp [intOf]; omega
          · have hlt1 : ¬ (q : Int) < i := by omega
            obtain rfl : q = i := by omega
            obtain ⟨L1, hL1⟩ : ∃ L1, L1 = (List.range q).flatMap (fun _ => [blN 1, ifN 2, trN]) := ⟨_, rfl⟩
            rw [← hL1] at HO
            have HL1 := Lib.hid hL1
            clear hL1 hlt hlt1 hq hz9
            go_wp2_with fail
            go_loopw [14, 16] (fun l k wr => ∃ k2 : Nat, k2 ≤ r ∧ k = .int .i64 k2 ∧ wr.ownsRow w.heap.size 33 7 l (3 * q + 2 * k2) (flat (L1 ++ (List.range k2).flatMap (fun i : Nat => [blN 1, repN (i : Int)]))) ∧ Below w.heap.size w wr) (fun _ k _ => r - (intOf k).toNat)
            case atStart => exact ⟨0, Nat.zero_le _, rfl, by simpa using HO.out, HB.out⟩
            case round =>
              obtain ⟨k2, hq, rfl, hO, hB2⟩ := hrel
              have HO2 := Lib.hid hO
              have HB2 := Lib.hid hB2
              have hz2 := hB2.size
              clear hO hB2 hz HO HB
              by_cases hlt : k2 < r
              · have hlt1 : (k2 : Int) < r := by omega
                go_wp2_with (at_builtin; refine wpList_app_new rfl (.tmp 83) (.tmp 87) rfl w.heap.size _ (3 * q + 2 * k2) _ rfl (HO2.out.alloc _) 2 2 wr.heap.size [blN 1, repN (k2 : Int)] _ rfl rfl (G.Blk.new wr _ _) rfl (by omega) (by simp; omega) ?_; intro v1 w1 ht1 hb1; have HO1 := Lib.hid ht1; have HB1 := Lib.hid (bl_base (G.bl_alloc HB2.out _) hb1); clear ht1 hb1)
                go_roundw
                case rel => exact ⟨k2 + 1, by omega, by go_num, by rw [rng_snoc, ← List.append_assoc]; exact HO1.out, HB1.out⟩
                case measure => simp [intOf]; omega
              · have hlt1 : ¬ (k2 : Int) < r := by omega
                obtain rfl : k2 = r := by omega
                obtain ⟨L2, hL2⟩ : ∃ L2, L2 = (List.range k2).flatMap (fun i : Nat => [blN 1, repN (i : Int)]) := ⟨_, rfl⟩
                rw [← hL2] at HO2
                have HL2 := Lib.hid hL2
                clear hL2 hlt hlt1 hq
                obtain ⟨z, hzz⟩ : ∃ z : Nat, z = (if 0 < s then 1 else 0) := ⟨_, rfl⟩
                obtain ⟨L3, hL3⟩ : ∃ L3 : List Nd, L3 = L1 ++ L2 ++ (if 0 < s then [blN 1] else []) := ⟨_, rfl⟩
                have hz1 : z ≤ 1 := by rw [hzz]; split <;> omega
                have HZ := Lib.hid hzz
                have HL3 := Lib.hid hL3
                clear hzz hL3
                go_upto_if 90 with (fail)
                go_cut [14] from 23 to 168 (fun s14 wx => wx.ownsRow w.heap.size 33 7 s14 (3 * q + 2 * k2 + z) (flat L3) ∧ Below w.heap.size w wx)
                case first =>
                  by_cases hs0 : 0 < s
                  · have hs1 : (0 : Int) < s := by omega
                    go_wp2_with (at_builtin; refine wpList_app_new rfl (.tmp 91) (.tmp 93) rfl w.heap.size _ (3 * q + 2 * k2) _ rfl (HO2.out.alloc _) 1 1 wr.heap.size [blN 1] _ rfl rfl (G.Blk.new wr _ _) rfl (by omega) (by simp; omega) ?_; intro v1 w1 ht1 hb1; have HO1 := Lib.hid ht1; have HB1 := Lib.hid (bl_base (G.bl_alloc HB2.out _) hb1); clear ht1 hb1)
                    go_meet
                    exact ⟨by rw [HZ.out, HL3.out, if_pos hs0, if_pos hs0]; exact HO1.out, HB1.out⟩
                  · have hs1 : ¬ (0 : Int) < s := by omega
                    go_wp2_with fail
                    go_meet
                    exact ⟨by rw [HZ.out, HL3.out, if_neg hs0, if_neg hs0, List.append_nil]; exact HO2.out, HB2.out⟩
                case rest =>
                  have HO3 := Lib.hid hcut.1
                  have HB3 := Lib.hid hcut.2
                  clear hcut HO2 HB2 hz2
                  go_wp2_with fail
                  go_loopw [14, 17] (fun l k wr => ∃ k3 : Nat, k3 ≤ s ∧ k = .int .i64 k3 ∧ wr.ownsRow w.heap.size 33 7 l (3 * q + 2 * k2 + z + 3 * k3) (flat (L3 ++ (List.range k3).flatMap (fun _ => [ifN 3, faN, blN 0]))) ∧ Below w.heap.size w wr) (fun _ k _ => s - (intOf k).toNat)
                  case atStart => exact ⟨0, Nat.zero_le _, rfl, by simpa using HO3.out, HB3.out⟩
                  case round =>
                    obtain ⟨k3, hq, rfl, hO, hB2⟩ := hrel
                    have HO4 := Lib.hid hO
                    have HB4 := Lib.hid hB2
                    have hz2 := hB2.size
                    clear hO hB2 HO3 HB3
                    by_cases hlt : k3 < s
                    · have hlt1 : (k3 : Int) < s := by omega
                      go_wp2_with (at_builtin; refine wpList_app_new rfl (.tmp 100) (.tmp 104) rfl w.heap.size _ (3 * q + 2 * k2 + z + 3 * k3) _ rfl (HO4.out.alloc _) 3 3 wr.heap.size [ifN 3, faN, blN 0] _ rfl rfl (G.Blk.new wr _ _) rfl (by omega) (by simp; omega) ?_; intro v1 w1 ht1 hb1; have HO1 := Lib.hid ht1; have HB1 := Lib.hid (bl_base (G.bl_alloc HB4.out _) hb1); clear ht1 hb1)
                      go_roundw
                      case rel => exact ⟨k3 + 1, by omega, by go_num, by rw [rng_snoc, ← List.append_assoc]; exact HO1.out, HB1.out⟩
                      case measure => simp [intOf]; omega
                    · have hlt1 : ¬ (k3 : Int) < s := by omega
                      obtain rfl : k3 = s := by omega
                      obtain ⟨AL, hAL⟩ : ∃ AL, AL = allL q k2 k3 xs := ⟨_, rfl⟩
                      rw [← hAL] at HLAW
                      have hll : AL.length = 3 * q + 2 * k2 + z + 3 * k3 + xs.length := by rw [hAL, deep_len, HZ.out]
                      have HLL := Lib.hid hll
                      have hall : flat (L3 ++ (List.range k3).flatMap (fun _ => [ifN 3, faN, blN 0])) ++ flat xs = flat AL := by
                        rw [hAL, HL3.out, HL1.out, HL2.out]
                        unfold allL
                        simp only [flat, List.flatMap_append, List.append_assoc]
                      have HAL := Lib.hid hall
                      have HSA := Lib.hid (show Small AL by rw [hAL]; exact HSM.out.allL q k2 k3)
                      have HXB := Lib.hid (HX.out.below HB4.out)
                      have hle : 3 * q + 2 * k2 + z + 3 * k3 + xs.length ≤ 1099511627776 := by omega
                      have hlm : 3 * q + 2 * k2 + z + 3 * k3 + xs.length ≤ 16777213 := by omega
                      obtain ⟨NA, hNA⟩ : ∃ NA, NA = 3 * q + 2 * k2 + z + 3 * k3 := ⟨_, rfl⟩
                      rw [← hNA] at HO4 hll hle hlm HLL
                      have HLB := Lib.hid hlm
                      clear hll hall hNA hAL hlm hlt hlt1 hq
                      go_wp2_with (at_builtin; refine wpList_append_src rfl (.tmp 106) (.tmp 107) rfl w.heap.size _ NA _ rfl HO4.out A xs.length c xs rfl HXB.out hle hz2 ?_; intro v5 w5 ho5 hg5; rw [HAL.out] at ho5; have HB5 := Lib.hid (bl_base HB4.out ((Below.refl _ _).grown hg5 hz2 fun k hk => (HO4.out.lt k hk).1)); obtain ⟨a5, c5, h5⟩ := G.own_shape ho5; subst h5; have HO5 := Lib.hid ho5; clear ho5 hg5)
                      refine (HON.out w5 a5 (NA + xs.length) c5 AL (Src.of_own HO5.out HLL.out) (by have := HLB.out; omega)).mono ?_
                      rintro e w6 ⟨B6, d6, rfl, ho6, hb6⟩
                      have HW6 := Lib.hid (G.bl_trans HB5.out hb6)
                      have HR6 := Lib.hid (G.RdS.of_own ho6)
                      have HU := Lib.hid (show (one1 AL).length = NA + xs.length + 3 by simp [one1, HLL.out])
                      have HLB2 := Lib.hid (show NA + xs.length + 3 ≤ 16777216 by have := HLB.out; omega)
                      have HLB3 := Lib.hid (show NA + xs.length + 3 ≤ 1099511627776 by have := HLB.out; omega)
                      obtain ⟨NU, hNU⟩ : ∃ NU, NU = NA + xs.length + 3 := ⟨_, rfl⟩
                      rw [← hNU] at HR6 HU HLB2 HLB3 ⊢
                      clear ho6 hb6 hNU hle
                      have hxi : (xs.length : Int) ≤ 65536 := by omega
                      have hsi : (k3 : Int) ≤ 80 := by omega
                      have hqi : (q : Int) ≤ 80 := by omega
                      have hki : (k2 : Int) ≤ 80 := by omega
                      obtain ⟨zi, hzi⟩ : ∃ zi : Int, zi = (z : Int) := ⟨_, rfl⟩
                      have HZI := Lib.hid hzi
                      have hzi0 : 0 ≤ zi ∧ zi ≤ 1 := by omega
                      clear hzi
                      go_upto_if 127 with (fail)
                      go_cut [19, 20] from 23 to 168 (fun s19 s20 wx => s19 = .int .i64 (D + q + k2 + k3) ∧ s20 = .int .i64 ((xs.length : Int) + 3 * q + 2 * k2 + 3 * k3 + zi) ∧ w6 = wx)
                      case first =>
                        by_cases hs0 : 0 < k3
                        · have hs1 : (0 : Int) < k3 := by omega
                          have HZ1 := Lib.hid (show zi = 1 by rw [HZI.out, HZ.out, if_pos hs0]; rfl)
                          go_wp2_with fail
                          go_meet
                          case rel => exact ⟨rfl, by rw [HZ1.out], rfl⟩
                        · have hs1 : ¬ (0 : Int) < k3 := by omega
                          have HZ1 := Lib.hid (show zi = 0 by rw [HZI.out, HZ.out, if_neg hs0]; rfl)
                          have HZ2 := Lib.hid (show (k3 : Int) = 0 by omega)
                          go_wp2_with fail
                          go_meet
                          case rel => exact ⟨by rw [HZ2.out, Int.add_zero], by rw [HZ1.out, HZ2.out, Int.add_zero], rfl⟩
                      case rest =>
                        obtain ⟨rfl, rfl, rfl⟩ := hcut
                        obtain ⟨DD, hDD⟩ : ∃ DD, DD = D + q + k2 + k3 := ⟨_, rfl⟩
                        have hdd0 : 0 ≤ DD ∧ DD ≤ 400 := by omega
                        have HDU := Lib.hid (show depthOf (one1 AL) = DD by rw [HLAW.out.2.1, hDD])
                        rw [← hDD]
                        clear hDD
                        obtain ⟨WW, hWW⟩ : ∃ WW, WW = (xs.length : Int) + 3 * q + 2 * k2 + 3 * k3 + zi := ⟨_, rfl⟩
                        have HWU := Lib.hid (show weightOf (one1 AL) = WW by
                          have h1 := HLAW.out.2.2
                          rw [HWE.out] at h1
                          rw [h1, hWW, HZI.out, HZ.out]
                          split <;> simp)
                        rw [← hWW]
                        clear hWW
                        have hce := checkE_cases (one1 AL)
                        have hce2 : (DD ≤ 64 ∧ checkE (one1 AL) = 0) ∨ (¬ DD ≤ 64 ∧ checkE (one1 AL) = 23) := by
                          unfold checkE
                          rw [if_neg (by rw [HLAW.out.1]; omega), HDU.out]
                          by_cases h : 64 < DD
                          · rw [if_pos h]; exact .inr ⟨by omega, rfl⟩
                          · rw [if_neg h]; exact .inl ⟨by omega, rfl⟩
                        clear hce
                        go_wp2_with fail
                        refine (HCP.out w6 B6 NU d6 (one1 AL) HU.out HLB3.out HR6.out).mono ?_
                        rintro e w7 ⟨B7, d7, rfl, ho7, hb7⟩
                        have HW7 := Lib.hid (G.bl_trans HW6.out hb7)
                        have HR7 := Lib.hid (G.RdS.of_own ho7)
                        have HR67 := Lib.hid (HR6.out.below hb7)
                        clear ho7 hb7
                        go_wp2_with fail
                        refine (HCK.out w7 B7 NU d7 (one1 AL) HU.out HLB2.out HR7.out HW7.out HSA.out.one1).mono ?_
                        rintro e w8 ⟨he, hb8⟩
                        have HW8 := Lib.hid (G.bl_trans HW7.out hb8)
                        have HR68 := Lib.hid (HR67.out.below hb8)
                        clear hb8
                        generalize checkE (one1 AL) = E2 at he hce2
                        generalize checkP (one1 AL) = PP2 at he
                        rcases hce2 with ⟨hdd, rfl⟩ | ⟨hdd, rfl⟩
                        all_goals
                          subst he
                          go_wp2_with fail
                          refine (HCP.out w8 B6 NU d6 (one1 AL) HU.out HLB3.out HR68.out).mono ?_
                          rintro e w9 ⟨B9, d9, rfl, ho9, hb9⟩
                          have HW9 := Lib.hid (G.bl_trans HW8.out hb9)
                          have HR9 := Lib.hid (G.RdS.of_own ho9)
                          have HR69 := Lib.hid (HR68.out.below hb9)
                          clear ho9 hb9
                          go_wp2_with fail
                          refine (HDP.out w9 B9 NU d9 (one1 AL) HU.out HLB2.out HR9.out HW9.out HSA.out.one1).mono ?_
                          rintro e wa ⟨he, hba⟩
                          rw [HDU.out] at he
                          subst he
                          have HWA := Lib.hid (G.bl_trans HW9.out hba)
                          have HR6A := Lib.hid (HR69.out.below hba)
                          clear hba
                          go_wp2_with fail
                          refine (HCP.out wa B6 NU d6 (one1 AL) HU.out HLB3.out HR6A.out).mono ?_
                          rintro e wb ⟨Bb, db, rfl, hob, hbb⟩
                          have HWB := Lib.hid (G.bl_trans HWA.out hbb)
                          have HRB := Lib.hid (G.RdS.of_own hob)
                          clear hob hbb
                          go_wp2_with fail
                          refine (HWT.out wb Bb NU db (one1 AL) HU.out HLB2.out HRB.out HWB.out HSA.out.one1).mono ?_
                          rintro e wc2 ⟨he, hbc⟩
                          rw [HWU.out] at he
                          subst he
                          have HWC := Lib.hid (G.bl_trans HWB.out hbc)
                          clear hbc
                          go_wp2_with fail
                          refine (HLV.out wc2 HWC.out).mono ?_
                          rintro e wd ⟨rfl, hbd⟩
                          have HWD := Lib.hid (G.bl_trans HWC.out hbd)
                          clear hbd
                          go_wp2_with fail
                          go_ret
                          first
                            | exact ⟨rfl, HWD.out⟩
                            | exact ⟨ret_bool (by rw [decide_eq_false (show ¬ DD ≤ 64 by omega)]; rfl), HWD.out⟩
  · have hq : pi < 0 ∨ (¬ pi < 0 ∧ pr < 0) ∨ (¬ pi < 0 ∧ ¬ pr < 0 ∧ pe < 0) ∨ (¬ pi < 0 ∧ ¬ pr < 0 ∧ ¬ pe < 0 ∧ 80 < pi) ∨ (¬ pi < 0 ∧ ¬ pr < 0 ∧ ¬ pe < 0 ∧ ¬ 80 < pi ∧ 80 < pr) ∨ (¬ pi < 0 ∧ ¬ pr < 0 ∧ ¬ pe < 0 ∧ ¬ 80 < pi ∧ ¬ 80 < pr ∧ 80 < pe) := by omega
    clear hin
    rcases hq with h1 | ⟨h1, h2⟩ | ⟨h1, h2, h3⟩ | ⟨h1, h2, h3, h4⟩ | ⟨h1, h2, h3, h4, h5⟩ | ⟨h1, h2, h3, h4, h5, h6⟩
    all_goals
      go_enter Try.func6, Try.ntmps6
      go_wp2_with fail
      refine HB1.out.mono ?_
      rintro e w1 ⟨b1, rfl, rfl, hb1⟩
      clear hb1
      cases b1 with
      | true =>
        go_wp2_with fail
        go_ret
        exact ⟨rfl, Below.refl _ _⟩
      | false =>
        go_wp2_with fail
        go_ret
        exact ⟨rfl, Below.refl _ _⟩
end Go.Proofs.Ytamienmbpdbnnaa.T

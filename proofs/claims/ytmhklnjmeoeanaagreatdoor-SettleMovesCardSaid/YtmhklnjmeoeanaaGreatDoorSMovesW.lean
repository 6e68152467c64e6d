/- The walk of SettleMoves: who moves where, who stays, the order of events. Printed by gen_moves25.py. -/
import Derived.Test.YtmhklnjmeoeanaaGreatDoorSPlain
import Derived.Test.YtmhklnjmeoeanaaGreatDoorDMoveD
import Derived.Test.YtmhklnjmeoeanaaGreatDoorSStaysW
namespace Go.Proofs.YtmhklnjmeoeanaaGreatDoor.D
open Go Go.RowKit
set_option linter.unusedVariables false
set_option linter.unusedSimpArgs false
def RestPost (X : List Int) (w : World) (e : Ending) (w' : World) : Prop := ∃ (A : Option Addr) (n c : Nat), e = .returned (.slice A n c) ∧ w'.ownsRow w.heap.size 3 1 (.slice A n c) n (i64s X) ∧ Below w.heap.size w w'
theorem rest_next {l ms : List Int} {on : Bool} {k : Nat} {c : Int} (hk : k < l.length) (hc : l.getD k 0 = c) : restL (l.take (k + 1)) ms on = if (decide (c ∈ ms) == on) = true then restL (l.take k) ms on ++ [c] else restL (l.take k) ms on := by
  unfold restL
  have e : l[k] = c := by
    rw [← hc, List.getD_eq_getElem?_getD, List.getElem?_eq_getElem hk]
    rfl
  rw [← List.take_append_getElem hk, List.filter_append, e]
  split
  · rename_i h
    rw [List.filter_cons_of_pos (p := fun c => decide (c ∈ ms) == on) h]
    rfl
  · rename_i h
    rw [List.filter_cons_of_neg (p := fun c => decide (c ∈ ms) == on) h, List.filter_nil, List.append_nil]
theorem mem_next {ms : List Int} {j : Nat} {c d : Int} (hj : j < ms.length) (hd : ms.getD j 0 = d) : decide (c ∈ ms.take (j + 1)) = (decide (c ∈ ms.take j) || decide (d = c)) := by
  have e : ms[j] = d := by
    rw [← hd, List.getD_eq_getElem?_getD, List.getElem?_eq_getElem hj]
    rfl
  rw [← List.take_append_getElem hj, e]
  by_cases h : d = c
  · subst h
    simp
  · have : ¬ c = d := fun e => h e.symm
    simp [h, this]
set_option maxRecDepth 100000 in
set_option maxHeartbeats 8000000 in
theorem rest_any (A B : Option Addr) (n c0 m d0 : Nat) (l ms : List Int) (on : Bool) (w : World) (hl : l.length = n) (hm : ms.length = m) (h : G.RdS w A 1 n (i64s l)) (k0 : G.RdS w B 1 m (i64s ms)) (hn : n ≤ 33554432) (hmm : m ≤ 33554432) :
    Calls Tryz.prog 11 #[.slice A n c0, .slice B m d0, .bool on] w (RestPost (restL l ms on) w) := by
  obtain ⟨iI, hi, hz0, hz1, hz2⟩ := info_parts infoInt
  have HI := Lib.hid (And.intro hi (And.intro hz0 (And.intro hz1 hz2)))
  have HL := Lib.hid h
  have HM := Lib.hid k0
  have HLL := Lib.hid hl
  have HML := Lib.hid hm
  clear h k0 hl hm hi hz0 hz1 hz2
  go_enter Tryz.func11, Tryz.ntmps11
  go_upto_region 3 with (fail)
  go_loopw [7, 8] (fun v i wr => ∃ k : Nat, k ≤ n ∧ i = .int .i64 (k : Int) ∧ wr.ownsRow w.heap.size 3 1 v (restL (l.take k) ms on).length (i64s (restL (l.take k) ms on)) ∧ Below w.heap.size w wr) (fun _ i _ => n - (intOf i).toNat)
  case atStart => exact ⟨0, Nat.zero_le _, rfl, World.ownsRow_nil _ _ _ _, Below.refl _ _⟩
  case round =>
    obtain ⟨k, hk, rfl, how, hbl⟩ := hrel
    obtain ⟨A7, c7, rfl⟩ := G.own_shape how
    have HOW := Lib.hid how
    have HBL := Lib.hid hbl
    have hk0 : (0 : Int) ≤ k := by omega
    clear how hbl
    by_cases hlt : k < n
    · have hkI : (k : Int) < n := by omega
      obtain ⟨bl, ol, hA, hv⟩ := (HL.out.below HBL.out).2 (by omega)
      subst hA
      obtain ⟨c, hc⟩ : ∃ c, c = l.getD k 0 := ⟨_, rfl⟩
      have HC := Lib.hid hc.symm
      have HV := Lib.hid hv
      have HBLL := Lib.hid (show (bl : Nat) < wr.heap.size from hv.1)
      have HCL := Lib.hid (show wr.cell? ⟨bl, ol + k, none⟩ = some (.int .i64 c) by rw [hc]; exact i64_at hv (by rw [HLL.out]; exact hlt))
      have hlen : (restL (l.take k) ms on).length ≤ 33554432 := by
        have h1 : (restL (l.take k) ms on).length ≤ (l.take k).length := List.length_filter_le _ _
        rw [List.length_take] at h1
        omega
      obtain ⟨q, hq⟩ : ∃ q, q = (restL (l.take k) ms on).length := ⟨_, rfl⟩
      have HQ := Lib.hid hq
      rw [← hq] at HOW hlen ⊢
      clear hc hv hq
      go_upto_region 7 with (fail)
      obtain ⟨wq, hwq⟩ : ∃ q, q = wr := ⟨_, rfl⟩
      have HWQ := Lib.hid hwq
      clear hwq
      go_loopw [9, 10] (fun b i wi => ∃ j : Nat, j ≤ m ∧ i = .int .i64 (j : Int) ∧ b = .bool (decide (c ∈ ms.take j)) ∧ Below wq.heap.size wq wi) (fun _ i _ => m - (intOf i).toNat)
      case atStart => exact ⟨0, Nat.zero_le _, rfl, by simp, by rw [HWQ.out]; exact Below.refl _ _⟩
      case round =>
        obtain ⟨j, hj, rfl, rfl, hbi⟩ := hrel
        have HBI := Lib.hid hbi
        have hj0 : (0 : Int) ≤ j := by omega
        clear hbi
        by_cases hltj : j < m
        · have hjI : (j : Int) < m := by omega
          obtain ⟨bm, om, hB, hv2⟩ := (((HM.out.below HBL.out)).below (by rw [← HWQ.out]; exact HBI.out)).2 (by omega)
          subst hB
          obtain ⟨d, hd⟩ : ∃ d, d = ms.getD j 0 := ⟨_, rfl⟩
          have hcd : wr.cell? ⟨bm, om + j, none⟩ = some (.int .i64 d) := by rw [hd]; exact i64_at hv2 (by rw [HML.out]; exact hltj)
          have hcl : wr.cell? ⟨bl, ol + k, none⟩ = some (.int .i64 c) := (HBI.out.cell (p := ⟨bl, ol + k, none⟩) (by rw [HWQ.out]; exact HBLL.out)).trans (by rw [HWQ.out]; exact HCL.out)
          have lb1 := hv2.1
          have lb2 := World.block_lt_of_cell? _ _ hcl
          have HMN := Lib.hid (mem_next (c := c) (by rw [HML.out]; exact hltj) hd.symm)
          clear hd hv2
          obtain ⟨b, hb⟩ : ∃ b, b = decide (c ∈ ms.take j) := ⟨_, rfl⟩
          have HB := Lib.hid hb
          rw [← hb] at HMN ⊢
          clear hb
          cases b with
          | true =>
            go_upto_region 9 with (fail)
            go_region
            go_wp2_with fail
            go_roundw
            case rel => exact ⟨j + 1, by omega, by go_num, by rw [HMN.out]; rfl, HBI.out.drew⟩
            case measure => (simp [intOf]; omega)
          | false =>
            by_cases hdc : d = c
            · subst hdc
              go_upto_region 9 with (fail)
              go_region
              go_wp2_with fail
              go_roundw
              case rel => exact ⟨j + 1, by omega, by go_num, by rw [HMN.out]; simp, HBI.out.drew⟩
              case measure => (simp [intOf]; omega)
            · have hdb : (d == c) = false := by simpa using hdc
              go_upto_region 9 with (fail)
              go_region
              go_wp2_with fail
              go_roundw
              case rel => exact ⟨j + 1, by omega, by go_num, by rw [HMN.out]; simp [hdc], HBI.out.drew⟩
              case measure => (simp [intOf]; omega)
        · have hjI : ¬ (j : Int) < m := by omega
          obtain rfl : j = m := by omega
          rw [List.take_of_length_le (by rw [HML.out]; exact Nat.le_refl _)]
          have HRN := Lib.hid (rest_next (ms := ms) (on := on) (by rw [HLL.out]; exact hlt) HC.out)
          have hcl : wr.cell? ⟨bl, ol + k, none⟩ = some (.int .i64 c) := (HBI.out.cell (p := ⟨bl, ol + k, none⟩) (by rw [HWQ.out]; exact HBLL.out)).trans (by rw [HWQ.out]; exact HCL.out)
          have lb2 := World.block_lt_of_cell? _ _ hcl
          have HOWi := Lib.hid (show wr.ownsRow w.heap.size 3 1 (.slice A7 q c7) q (i64s (restL (l.take k) ms on)) from G.own_below (by rw [HWQ.out]; exact HOW.out) HBI.out)
          have HBLi := Lib.hid (show Below w.heap.size w wr from G.bl_trans HBL.out (by rw [← HWQ.out]; exact HBI.out))
          have hz : w.heap.size ≤ wr.heap.size := HBLi.out.size
          obtain ⟨b, hb⟩ : ∃ b, b = decide (c ∈ ms) := ⟨_, rfl⟩
          rw [← hb] at HRN ⊢
          clear hb
          by_cases hbo : b = on
          · subst hbo
            rw [if_pos (by simp)] at HRN
            go_wp2_with (at_builtin; refine wpList_append_own _ rfl (.tmp 38) (.tmp 43) 35 rfl w.heap.size 3 iI (.int .i64 0) 1 8 Tryz.underlying35 HI.out.1 HI.out.2.1 HI.out.2.2.1 HI.out.2.2.2 rfl (by decide) _ q (i64s (restL (l.take k) ms b)) rfl (HOWi.out.alloc _) ⟨wr.heap.size, 0, none⟩ 1 1 [.int .i64 c] rfl rfl (G.cells_new _ _ _ _ rfl) (by simp [Value.oneCell']) (by unfold maxLen; omega) (by omega) (by simp; omega) ?_; intro v3 w3 hown3 hg3 _q; have HOWN3 := Lib.hid hown3; have HB3 := Lib.hid ((G.bl_alloc HBLi.out _).grown hg3 (by simp; omega) fun r hr => (HOWi.out.lt r hr).1); clear hown3 hg3)
            go_roundw
            case rel => exact ⟨k + 1, by omega, by go_num, by rw [HRN.out, List.length_append, ← HQ.out]; simpa [i64s] using HOWN3.out, HB3.out⟩
            case measure => (simp [intOf]; omega)
          · have hbb : (b == on) = false := by simpa using hbo
            rw [if_neg (by rw [hbb]; decide)] at HRN
            go_wp2_with fail
            go_roundw
            case rel => exact ⟨k + 1, by omega, by go_num, by rw [HRN.out, ← HQ.out]; exact HOWi.out, HBLi.out⟩
            case measure => (simp [intOf]; omega)
    · have hkI : ¬ (k : Int) < n := by omega
      obtain rfl : k = n := by omega
      rw [List.take_of_length_le (by rw [HLL.out]; exact Nat.le_refl _)] at HOW ⊢
      go_wp2_with fail
      go_ret
      exact ⟨A7, _, c7, rfl, HOW.out, HBL.out⟩
end Go.Proofs.YtmhklnjmeoeanaaGreatDoor.D
namespace Go.Proofs.YtmhklnjmeoeanaaGreatDoor.D
open Go Go.RowKit
set_option linter.unusedVariables false
set_option linter.unusedSimpArgs false
theorem size_int8 : ∀ w, (Go.sizeOf 3).run Tryz.prog w = .ok 1 w := fun w => by kernel_rfl
theorem i64s_take (zs : List Int) (q : Nat) : i64s (zs.take q) = (i64s zs).take q := by simp [i64s, List.map_take]
theorem i64s_drop (zs : List Int) (q : Nat) : i64s (zs.drop q) = (i64s zs).drop q := by simp [i64s, List.map_drop]
theorem pre_int (A : Option Addr) (n c q : Nat) (hc : n ≤ c) (hA : A = none → c = 0) (hq : q ≤ n) :
    ∃ A' c', (∀ W, (Instr.slice 35 (.slice A n c) none (some (.int .i64 (q : Int))) none).run Tryz.prog W = .ok (.slice A' q c') W) ∧ ∀ W (zs : List Int), zs.length = n → G.RdS W A 1 n (i64s zs) → G.RdS W A' 1 q (i64s (zs.take q)) := by
  have ht' : Tryz.prog.underlying 35 = some (.slice (Tryz.prog.elem 35)) := by simp [Program.elem, Tryz.underlying35]
  have he : Tryz.prog.elem 35 = 3 := by simp [Program.elem, Tryz.underlying35]
  have hrun : ∀ w, (Instr.slice 35 (.slice A n c) none (some (.int .i64 (q : Int))) none).run Tryz.prog w = .ok (sliced A 0 q c 1) w := fun w => by
    rw [run_slice_h w 35 A n c ht' .i64 _ (by omega) (by omega), he, size_int8]
    rfl
  have hlen : ∀ zs : List Int, zs.length = n → (i64s (zs.take q)).length = q * 1 := fun zs hz => by rw [i64s_length, List.length_take]; omega
  cases A with
  | none =>
    obtain rfl := hA rfl
    obtain rfl : n = 0 := by omega
    obtain rfl : q = 0 := by omega
    exact ⟨none, 0, fun W => by rw [hrun]; rfl, fun W zs hz _ => ⟨hlen zs hz, fun h => by omega⟩⟩
  | some ad =>
    by_cases hc0 : c = 0
    · subst hc0
      obtain rfl : n = 0 := by omega
      obtain rfl : q = 0 := by omega
      exact ⟨some ad, 0, fun W => by rw [hrun]; simp [sliced], fun W zs hz _ => ⟨hlen zs hz, fun h => by omega⟩⟩
    · refine ⟨some (ad.add 0), c, fun W => by rw [hrun]; simp [sliced, hc0], fun W zs hz hr => ⟨hlen zs hz, fun h => ?_⟩⟩
      obtain ⟨b, o, e, hl, hx⟩ := hr.2 (by omega)
      simp only [Option.some.injEq] at e
      subst e
      refine ⟨b, o, by simp [Addr.add], hl, fun i hi => ?_⟩
      rw [hlen zs hz] at hi
      rw [hx i (by rw [i64s_length]; omega), i64s_take, List.getD_eq_getElem?_getD, List.getD_eq_getElem?_getD, List.getElem?_take, if_pos (by omega)]
theorem suf_int (A : Option Addr) (n c q : Nat) (hc : n ≤ c) (hA : A = none → c = 0) (hq : q ≤ n) :
    ∃ A' c', (∀ W, (Instr.slice 35 (.slice A n c) (some (.int .i64 (q : Int))) none none).run Tryz.prog W = .ok (.slice A' (n - q) c') W) ∧ ∀ W (zs : List Int), zs.length = n → G.RdS W A 1 n (i64s zs) → G.RdS W A' 1 (n - q) (i64s (zs.drop q)) := by
  have ht' : Tryz.prog.underlying 35 = some (.slice (Tryz.prog.elem 35)) := by simp [Program.elem, Tryz.underlying35]
  have he : Tryz.prog.elem 35 = 3 := by simp [Program.elem, Tryz.underlying35]
  have hrun : ∀ w, (Instr.slice 35 (.slice A n c) (some (.int .i64 (q : Int))) none none).run Tryz.prog w = .ok (sliced A q n c 1) w := fun w => by
    rw [run_slice_l w 35 A n c ht' .i64 _ (by omega) (by omega), he, size_int8]
    rfl
  have hlen : ∀ zs : List Int, zs.length = n → (i64s (zs.drop q)).length = (n - q) * 1 := fun zs hz => by rw [i64s_length, List.length_drop]; omega
  cases A with
  | none =>
    obtain rfl := hA rfl
    obtain rfl : n = 0 := by omega
    obtain rfl : q = 0 := by omega
    exact ⟨none, 0, fun W => by rw [hrun]; rfl, fun W zs hz _ => ⟨hlen zs hz, fun h => by omega⟩⟩
  | some ad =>
    by_cases hca : c = q
    · subst hca
      obtain rfl : n = c := by omega
      exact ⟨some ad, 0, fun W => by rw [hrun]; simp [sliced], fun W zs hz _ => ⟨hlen zs hz, fun h => by omega⟩⟩
    · refine ⟨some (ad.add q), c - q, fun W => by rw [hrun]; simp [sliced, hca], fun W zs hz hr => ⟨hlen zs hz, fun h => ?_⟩⟩
      obtain ⟨b, o, e, hl, hx⟩ := hr.2 (by omega)
      simp only [Option.some.injEq] at e
      subst e
      refine ⟨b, o + q, by simp [Addr.add], hl, fun i hi => ?_⟩
      rw [hlen zs hz] at hi
      have h1 := hx (q + i) (by rw [i64s_length]; omega)
      rw [Nat.add_assoc, h1, i64s_drop, List.getD_eq_getElem?_getD, List.getD_eq_getElem?_getD, List.getElem?_drop]
end Go.Proofs.YtmhklnjmeoeanaaGreatDoor.D
namespace Go.Proofs.YtmhklnjmeoeanaaGreatDoor.D
open Go Go.RowKit
set_option linter.unusedVariables false
set_option linter.unusedSimpArgs false
/-- Which event stands where, whatever the state. -/
structure DueM (s : St) (l : List Ev) (a b : Nat) : Prop where
  ab : a ≤ b
  bl : b ≤ l.length
  mv : ∀ i, i < a → (l.getD i zeroEv).kind = 1 ∧ Within (l.getD i zeroEv).card s.cards.length ∧ spentB s (l.getD i zeroEv).card = true ∧ (l.getD i zeroEv).src % 4 = 2 ∧ (l.getD i zeroEv).dst = graveOf s (l.getD i zeroEv).card
  out : ∀ i, a ≤ i → i < b → (l.getD i zeroEv).kind = 5
  fin : ∀ i, b ≤ i → i < l.length → (l.getD i zeroEv).kind = 7
  dead : (l.take a).map (·.card) = movedL s
theorem due_m {s : St} (h : May s) : ∃ a b, DueM s (dueP s).2 a b := by
  by_cases h0 : s.fin = 0
  · obtain ⟨a, b, d⟩ := due_at h h0
    exact ⟨a, b, d.ab, d.bl, d.mv, d.out, d.fin, by unfold movedL; rw [if_pos h0]; exact d.dead⟩
  · refine ⟨0, 0, ?_⟩
    rw [(due_at_end h0).1]
    exact ⟨Nat.le_refl _, Nat.le_refl _, fun i hi => absurd hi (Nat.not_lt_zero _), fun i _ hi => absurd hi (Nat.not_lt_zero _), fun i _ hi => absurd hi (Nat.not_lt_zero _), by unfold movedL; rw [if_neg h0]; rfl⟩
theorem moveEv_src {t : St} {c zn : Int} {first : Bool} : ∀ e ∈ moveEv t c zn first, 0 ≤ e.src := fun e he => by
  rw [moveEv_eq rfl rfl rfl] at he
  by_cases h : ((zoneOf t.zones c : Nat) : Int) = zn ∧ ((atOf t.zones c : Nat) : Int) = if first = true then 0 else if ((zoneOf t.zones c : Nat) : Int) = zn then ((zone t zn).length : Int) - 1 else (zone t zn).length
  · rw [if_pos h] at he
    cases he
  · rw [if_neg h] at he
    rw [List.mem_singleton.1 he]
    show (0 : Int) ≤ ((zoneOf t.zones c : Nat) : Int)
    omega
theorem kills_src (s : St) : ∀ (cs : List Int) {a : St × List Ev}, (∀ e ∈ a.2, 0 ≤ e.src) → ∀ e ∈ (cs.foldl (killE s) a).2, 0 ≤ e.src
  | [], a, k => k
  | c :: cs, a, k => by
    refine kills_src s cs ?_
    show ∀ e ∈ (doEs a _).2, 0 ≤ e.src
    rw [doEs_snd]
    exact fun e he => (List.mem_append.1 he).elim (k e) (moveEv_src e)
theorem drops_src (s : St) : ∀ (ps : List Int) {a : St × List Ev}, (∀ e ∈ a.2, 0 ≤ e.src) → ∀ e ∈ (ps.foldl (dropE s) a).2, 0 ≤ e.src
  | [], a, k => k
  | p :: ps, a, k => by
    refine drops_src s ps ?_
    unfold dropE
    split
    · exact k
    · split
      · rw [doEs_snd]
        refine fun e he => (List.mem_append.1 he).elim (k e) fun h => ?_
        unfold outEv at h
        split at h
        · cases h
        · rw [List.mem_singleton.1 h]
          exact Int.le_refl 0
      · exact k
theorem due_src (s : St) : ∀ e ∈ (dueP s).2, 0 ≤ e.src := by
  have hd : ∀ e ∈ (dropS s).2, 0 ≤ e.src := drops_src s (ringL s) (kills_src s (deadL s) fun e he => by cases he)
  by_cases h0 : s.fin = 0
  · rw [dueP_on h0]
    split
    · rw [doEs_snd]
      refine fun e he => (List.mem_append.1 he).elim (hd e) fun h => ?_
      rw [List.mem_singleton.1 h]
      unfold endOf
      split <;> exact Int.le_refl 0
    · exact hd
  · rw [dueP_end h0]
    exact fun e he => by cases he
theorem own_caps {w : World} {b e sz n c : Nat} {A : Option Addr} {xs : List Value} (h : w.ownsRow b e sz (.slice A n c) n xs) : n ≤ c ∧ (A = none → c = 0) := by
  rcases h.2 with ⟨hv, h0⟩ | ⟨g, cap, cur, hv, _, _, hnc, _⟩
  · cases hv
    exact ⟨by omega, fun _ => rfl⟩
  · cases hv
    exact ⟨hnc, fun h => by cases h⟩
theorem own_len1 {w : World} {b e n : Nat} {v : Value} {l : List Int} (h : w.ownsRow b e 1 v n (i64s l)) : n = l.length := by
  have := h.1
  rw [i64s_length] at this
  omega
theorem eqInts_yes (A B : Option Addr) (n c d : Nat) (xs : List Int) (w : World) (hx : G.RdS w A 1 n (i64s xs)) (hy : G.RdS w B 1 n (i64s xs)) (hn : n ≤ 33554432) :
    Calls Tryz.prog 12 #[.slice A n c, .slice B n d] w (BoolPost true w) :=
  (G.eqInts_any A B n n c d xs xs w hx hy (by unfold maxLen; omega) (by unfold maxLen; omega)).mono fun e w' ⟨h1, k, h2⟩ => ⟨by rw [h1, decide_eq_true rfl], by rw [h2]; exact Bl.dn (Below.refl _ _) _⟩
/-- How far the order of events has come. -/
def stageOf (a b k : Nat) : Int := if k ≤ a then 0 else if k ≤ b then 1 else 2
set_option maxRecDepth 100000 in
set_option maxHeartbeats 16000000 in
theorem moves_any25 (x : SV) (s : St) (w : World) (h : RdSt w x s) (hw : Sw s) : Calls Tryz.prog 3 #[x.val s] w (BoolPost true w) := by
  obtain ⟨fsS, hfsS⟩ := undSt
  have HFS := Lib.hid hfsS
  have HSW := Lib.hid hw
  obtain ⟨cs, hc⟩ : ∃ c, c = x.arr s := ⟨_, rfl⟩
  have HScs := Lib.hid (show cs.size = 7 by rw [hc]; rfl)
  have HCX := Lib.hid hc
  have hvx : x.val s = .agg cs := by rw [hc]; rfl
  have HVX := Lib.hid hvx
  rw [hvx]
  have h1 : G.Blk (w.alloc (.cells cs 27)) w.heap.size 27 cs := G.Blk.new _ _ _
  have hb0 : Below w.heap.size w (w.alloc (.cells cs 27)) := G.bl_alloc (Below.refl _ _) _
  have HR := Lib.hid (show RdSt (w.alloc (.cells cs 27)) x s from h.below hb0)
  clear h hw hc hfsS hvx
  go_enter Tryz.func3, Tryz.ntmps3
  go_upto_region 1 with (fail)
  obtain ⟨w0, hw0⟩ : ∃ w0, w0 = w.alloc (.cells cs 27) := ⟨_, rfl⟩
  rw [← hw0] at h1 hb0 HR ⊢
  obtain ⟨g, hg⟩ : ∃ g, g = w.heap.size := ⟨_, rfl⟩
  rw [← hg] at h1 ⊢
  have HKg := Lib.hid h1
  have HB := Lib.hid hb0
  clear hw0 hg h1 hb0
  go_wp2_with (first | (refine wpList_load_row_g (by rfl) 27 _ rfl g rfl _ cs (0, 0) _ HKg.out HFS.out rfl (by rw [HScs.out]; exact sizeSt) ?_))
  refine (works_any w0).mono ?_
  rintro e1 w1 ⟨rfl, hb⟩
  have HBZ := Lib.hid hb
  clear hb
  have HKg := Lib.hid (HKg.out.below HBZ.out HKg.out.lt)
  have HB := Lib.hid (G.bl_trans HB.out HBZ.out)
  have HR := Lib.hid (HR.out.below HBZ.out)
  have HSZ := Lib.hid (sizeState_any x s w1 HR.out HSW.out)
  rw [HVX.out] at HSZ
  go_wp2_with (first | (refine wpList_load_row_g (by rfl) 27 _ rfl g rfl _ cs (0, 0) _ HKg.out HFS.out rfl (by rw [HScs.out]; exact sizeSt) ?_))
  refine (HSZ.out).mono ?_
  rintro e2 w2 ⟨rfl, hb⟩
  have HBZ := Lib.hid hb
  clear hb
  have HKg := Lib.hid (HKg.out.below HBZ.out HKg.out.lt)
  have HB := Lib.hid (G.bl_trans HB.out HBZ.out)
  have HR := Lib.hid (HR.out.below HBZ.out)
  obtain ⟨am, ham⟩ : ∃ q, q = amountSt s := ⟨_, rfl⟩
  have HAM := Lib.hid ham
  rw [← ham]
  clear ham
  by_cases hbig : (1048576 : Int) < (am : Int)
  · go_wp2_with fail
    go_ret
    exact ⟨rfl, HB.out⟩
  have HSS := Lib.hid (show Sz s from amount_sz (by rw [← HAM.out]; omega))
  have HCP := Lib.hid (copyState_any x s w2 HR.out HSS.out)
  rw [HVX.out] at HCP
  go_wp2_with (first | (refine wpList_load_row_g (by rfl) 27 _ rfl g rfl _ cs (0, 0) _ HKg.out HFS.out rfl (by rw [HScs.out]; exact sizeSt) ?_))
  refine (HCP.out).mono ?_
  rintro e3 w3 ⟨x3, rfl, ho, hb⟩
  have HBZ := Lib.hid hb
  clear hb
  have HKg := Lib.hid (HKg.out.below HBZ.out HKg.out.lt)
  have HB := Lib.hid (G.bl_trans HB.out HBZ.out)
  have HR := Lib.hid (HR.out.below HBZ.out)
  have HO := Lib.hid ho.rd
  clear ho
  go_wp2_with (first | (refine wpList_load_row_g (by rfl) 27 _ rfl g rfl _ cs (0, 0) _ HKg.out HFS.out rfl (by rw [HScs.out]; exact sizeSt) ?_))
  refine (all_any x3 s w3 HO.out HSS.out).mono ?_
  rintro e6 w6 ⟨x6, A6, n6, c6, L6, t6, k6, rfl, ho, hl, hb, hc6⟩
  have HO6 := Lib.hid ho
  have HL6 := Lib.hid hl
  have HC6 := Lib.hid hc6
  clear ho hl hc6
  have HBZ := Lib.hid hb
  clear hb
  have HKg := Lib.hid (HKg.out.below HBZ.out HKg.out.lt)
  have HB := Lib.hid (G.bl_trans HB.out HBZ.out)
  have HR := Lib.hid (HR.out.below HBZ.out)
  obtain ⟨cy, hcy⟩ : ∃ q, q = x6.arr t6 := ⟨_, rfl⟩
  rw [show x6.val t6 = .agg cy by rw [hcy]; rfl]
  have HCcy := Lib.hid hcy
  have HScy := Lib.hid (show cy.size = 7 by rw [hcy]; rfl)
  have HAcy := Lib.hid (show cy.all (·.oneCell') = true by rw [hcy]; exact arr_one _ _)
  clear hcy
  go_upto_region 5 with (first | (refine wpList_store_row rfl 27 _ _ rfl _ cy rfl rfl 27 _ (heap_alloc_new _ _) (by rw [HScy.out]; exact sizeSt) (by rw [HScy.out]; rfl) HAcy.out ?_))
  generalize hwA : World.setRow _ _ _ = w7
  have hqA : Below w6.heap.size w6 w7 := by rw [← hwA]; exact below_setRow (G.bl_alloc (Below.refl _ _) _) (Nat.le_refl _) _
  have hrA : G.Blk w7 w6.heap.size 27 cy := by rw [← hwA]; exact setRow_heap _ _ _ _ _ _ (heap_alloc_new _ _)
  generalize hgA : w6.heap.size = g6 at hrA ⊢
  clear hwA hgA
  have HBZ := Lib.hid hqA
  clear hqA
  have HKg := Lib.hid (HKg.out.below HBZ.out HKg.out.lt)
  have HB := Lib.hid (G.bl_trans HB.out HBZ.out)
  have HR := Lib.hid (HR.out.below HBZ.out)
  have HKg6 := Lib.hid hrA
  clear hrA
  have HO6 := Lib.hid (HO6.out.below HBZ.out)
  have HL6 := Lib.hid (HL6.out.below HBZ.out)
  by_cases hm : May s
  case neg =>
    obtain ⟨rfl, _, _⟩ := all_none hm HC6.out
    go_wp2_with fail
    go_ret
    exact ⟨rfl, HB.out⟩
  have HM := Lib.hid hm
  obtain ⟨rfl, ht6, hl6⟩ := all_some HM.out HC6.out
  obtain ⟨t, ht⟩ : ∃ q, q = (dueP s).1 := ⟨_, rfl⟩
  obtain rfl : t6 = t := ht6.trans ht.symm
  have HT := Lib.hid ht
  obtain ⟨a, b, hd⟩ := due_m HM.out
  rw [← hl6] at hd
  have HD := Lib.hid hd
  have HMT := Lib.hid (show May t6 by rw [ht]; exact due_may HM.out)
  have hln := ownEvs_len HL6.out
  have hn33 : n6 ≤ 33554432 := by rw [evs_len0 hl6 hln]; exact due_len HM.out
  have HLN := Lib.hid hln
  have han : a ≤ n6 := by have h1 := hd.ab; have h2 := hd.bl; rw [List.length_map, hln] at h2; omega
  have hab := hd.ab
  have hbn : b ≤ n6 := by have h2 := hd.bl; rw [List.length_map, hln] at h2; exact h2
  have HE := Lib.hid (show ∀ k, (L6.map Prod.snd).getD k zeroEv = (L6.getD k zeroP).2 from getD_snd L6)
  have HDE := Lib.hid hd.dead
  obtain ⟨Dl, hDl⟩ : ∃ q, q = movedL s := ⟨_, rfl⟩
  have HDL := Lib.hid hDl
  rw [← hDl] at HDE
  have HDA := Lib.hid (show Dl.length = a by rw [← HDE.out, List.length_map, List.length_take, List.length_map, hln]; omega)
  obtain ⟨iI, hiI, hzI0, hzI1, hzI2⟩ := info_parts infoInt
  have HII := Lib.hid (And.intro hiI (And.intro hzI0 (And.intro hzI1 hzI2)))
  have HTU := Lib.hid (same_due HM.out)
  rw [← HT.out] at HTU
  have HSRC := Lib.hid (show ∀ e ∈ L6.map Prod.snd, 0 ≤ e.src by rw [hl6]; exact due_src s)
  clear hm ht6 ht hl6 hd hDl hln hiI hzI0 hzI1 hzI2
  go_upto_region 10 with (fail)
  go_loopw [7, 8, 9] (fun v st i wr => ∃ k : Nat, k ≤ n6 ∧ i = .int .i64 (k : Int) ∧ st = .int .i64 (stageOf a b k) ∧ wr.ownsRow w7.heap.size 3 1 v (Dl.take k).length (i64s (Dl.take k)) ∧ Below w7.heap.size w7 wr) (fun _ _ i _ => n6 - (intOf i).toNat)
  case atStart => exact ⟨0, Nat.zero_le _, rfl, by simp [stageOf], World.ownsRow_nil _ _ _ _, Below.refl _ _⟩
  case round =>
    obtain ⟨k, hk, rfl, rfl, how, hbl⟩ := hrel
    obtain ⟨A7, c7, rfl⟩ := G.own_shape how
    have HOW := Lib.hid how
    have HBL := Lib.hid hbl
    have hk0 : (0 : Int) ≤ k := by omega
    obtain ⟨q, hq⟩ : ∃ q, q = (Dl.take k).length := ⟨_, rfl⟩
    have HQ := Lib.hid hq
    have hqn : q ≤ 33554432 := by rw [hq, List.length_take]; omega
    rw [← hq] at HOW ⊢
    clear how hbl hq
    by_cases hlt : k < n6
    · have hkI : (k : Int) < n6 := by omega
      obtain ⟨be, oe, hA, hev⟩ := (HL6.out.rd.below HBL.out).s.2 (by omega)
      subst hA
      have hkl : k < L6.length := by rw [HLN.out]; exact hlt
      obtain ⟨e, he⟩ : ∃ e, e = (L6.getD k zeroP).2 := ⟨_, rfl⟩
      have HEK := Lib.hid (show (L6.map Prod.snd).getD k zeroEv = e by rw [HE.out, he])
      have e0 : wr.cell? ⟨be, oe + k * 12, none⟩ = some (.int .i8 e.kind) := by rw [he]; exact ev_at hev hkl 0 (by omega)
      have e2 : wr.cell? ⟨be, oe + k * 12 + 2, none⟩ = some (.int .i64 e.card) := by rw [he]; exact ev_at hev hkl 2 (by omega)
      have e5 : wr.cell? ⟨be, oe + k * 12 + 5, none⟩ = some (.int .i64 e.src) := by rw [he]; exact ev_at hev hkl 5 (by omega)
      have e7 : wr.cell? ⟨be, oe + k * 12 + 7, none⟩ = some (.int .i64 e.dst) := by rw [he]; exact ev_at hev hkl 7 (by omega)
      have le0 := hev.1
      clear hev hkl he
      have HS1 := Lib.hid (show stageOf a b (k + 1) = if k < a then 0 else if k < b then 1 else 2 by
        unfold stageOf
        by_cases h1 : k < a
        · rw [if_pos (by omega), if_pos h1]
        · rw [if_neg (by omega), if_neg h1]
          by_cases h2 : k < b
          · rw [if_pos (by omega), if_pos h2]
          · rw [if_neg (by omega), if_neg h2])
      have HS0 := Lib.hid (show stageOf a b k ≤ stageOf a b (k + 1) ∧ 0 ≤ stageOf a b k by
        unfold stageOf
        split <;> split <;> (try split) <;> (try split) <;> omega)
      obtain ⟨s0, hs0⟩ : ∃ q, q = stageOf a b k := ⟨_, rfl⟩
      have HSS0 := Lib.hid hs0
      rw [← hs0] at HS0 ⊢
      clear hs0
      by_cases hka : k < a
      · as_aux_lemma =>
          obtain ⟨hkd, hcw, hsp, hsr, hds⟩ := HD.out.mv k hka
          have hs00 := HSRC.out e (by rw [← HEK.out]; exact mem_getD25 (by rw [List.length_map, HLN.out]; exact hlt))
          rw [HEK.out] at hkd hcw hsp hsr hds
          rw [hkd] at e0
          obtain ⟨cn, hcn⟩ : ∃ q : Nat, e.card = (q : Int) := ⟨e.card.toNat, by have := hcw.1; omega⟩
          rw [hcn] at hcw hsp hds e2
          have HTK := Lib.hid (show Dl.take (k + 1) = Dl.take k ++ [(cn : Int)] by
            have hk : k < Dl.length := by rw [HDA.out]; exact hka
            rw [← List.take_append_getElem hk]
            congr 2
            have h1 : Dl.getD k 0 = (cn : Int) := by
              rw [← hcn, ← HEK.out, ← HDE.out, List.getD_eq_getElem?_getD, List.getElem?_map, List.getElem?_take, if_pos hka, List.getD_eq_getElem?_getD]
              cases h : (L6.map Prod.snd)[k]? with
              | none =>
                have := List.getElem?_eq_none_iff.1 h
                rw [List.length_map, HLN.out] at this
                omega
              | some v => rfl
            rw [List.getD_eq_getElem?_getD, List.getElem?_eq_getElem hk] at h1
            exact h1)
          have hcn2 : cn < s.cards.length := by have := hcw.2; omega
          obtain rfl : s0 = 0 := by rw [HSS0.out]; unfold stageOf; rw [if_pos (by omega)]
          have hrem : e.src.tmod 4 = 2 := by rw [Int.tmod_eq_emod_of_nonneg hs00]; exact hsr
          have HREM := Lib.hid hrem
          have HDS := Lib.hid hds
          have HSP := Lib.hid hsp
          clear hkd hcw hsp hsr hds e5 e7 hs00 hrem
          go_upto_region 17 with (at_builtin; refine wpList_append_own _ rfl (.tmp 46) (.tmp 52) 35 rfl w7.heap.size 3 iI (.int .i64 0) 1 8 Tryz.underlying35 HII.out.1 HII.out.2.1 HII.out.2.2.1 HII.out.2.2.2 rfl (by decide) _ q (i64s (Dl.take k)) rfl (HOW.out.alloc _) ⟨wr.heap.size, 0, none⟩ 1 1 [.int .i64 (cn : Int)] rfl rfl (G.cells_new _ _ _ _ rfl) (by simp [Value.oneCell']) (by unfold maxLen; omega) (by omega) (by have := HBL.out.size; simp; omega) ?_; intro v3 w3 hown3 hg3 _q; obtain ⟨A3, c3, rfl⟩ := G.own_shape hown3; have HOWN3 := Lib.hid hown3; have HB3 := Lib.hid ((G.bl_alloc HBL.out _).grown hg3 (by have := HBL.out.size; simp; omega) fun r hr => (HOW.out.lt r hr).1); clear hown3 hg3)
          have HX3 := Lib.hid (HKg.out.below HB3.out HKg.out.lt)
          have HR3 := Lib.hid (HR.out.below HB3.out)
          obtain ⟨be', oe', hA, hev⟩ := (HL6.out.rd.below HB3.out).s.2 (by omega)
          cases hA
          have hkl : k < L6.length := by rw [HLN.out]; exact hlt
          have HEE := Lib.hid (show (L6.getD k zeroP).2 = e by rw [← HE.out]; exact HEK.out)
          have E2 := Lib.hid (show w3.drew.cell? ⟨be, oe + k * 12 + 2, none⟩ = some (.int .i64 (cn : Int)) by rw [← hcn, ← HEE.out]; exact ev_at hev hkl 2 (by omega))
          have E5 := Lib.hid (show w3.drew.cell? ⟨be, oe + k * 12 + 5, none⟩ = some (.int .i64 e.src) by rw [← HEE.out]; exact ev_at hev hkl 5 (by omega))
          have E7 := Lib.hid (show w3.drew.cell? ⟨be, oe + k * 12 + 7, none⟩ = some (.int .i64 e.dst) by rw [← HEE.out]; exact ev_at hev hkl 7 (by omega))
          have hbe : be < w3.drew.heap.size := hev.1
          have c1 : w3.drew.cell? ⟨g, 1, none⟩ = some (.slice x.ca s.cards.length x.cc) := by have h9 := HX3.out; rw [HCX.out] at h9; exact h9.cell 1
          have hRd : RdSt w3.drew x s := HR3.out.below (Below.refl _ _).drew
          obtain ⟨bc, oc, hca, hbc, hrunc⟩ := cd_whole hRd.c hcn2
          rw [hca] at c1
          obtain ⟨cd, hcd⟩ : ∃ q, q = s.cards.getD cn zeroCd := ⟨_, rfl⟩
          have hcdk := HM.out.cd _ (mem_getD (d := zeroCd) hcn2)
          rw [← hcd] at hrunc hcdk
          obtain ⟨cc, hcc⟩ : ∃ q, q = cd.cells.toArray := ⟨_, rfl⟩
          have HSV := Lib.hid (show ∀ V, Below w3.drew.heap.size w3.drew V → V.cell? ⟨g, 1, none⟩ = some (.slice (some ⟨bc, oc, none⟩) s.cards.length x.cc) ∧ V.cell? ⟨be, oe + k * 12 + 2, none⟩ = some (.int .i64 (cn : Int)) ∧ (loadVar 39 ⟨bc, oc + cn * 6, none⟩).run Tryz.prog V = .ok (.agg cc) V from fun V hV => by
            refine ⟨(hV.cell (p := ⟨g, 1, none⟩) HX3.out.lt).trans c1, (hV.cell (p := ⟨be, oe + k * 12 + 2, none⟩) hbe).trans E2.out, ?_⟩
            obtain ⟨b', o', e', _, hr⟩ := cd_whole (hRd.below hV).c hcn2
            rw [hca] at e'
            cases e'
            rw [hcc, hcd]
            exact hr)
          have HSC := Lib.hid (show cc.size = 6 by rw [hcc]; rfl)
          have HAC := Lib.hid (show cc.all (·.oneCell') = true by rw [hcc]; simp [Cd.cells, Value.oneCell'])
          have HQ1 := Lib.hid (show cc[1]? = some (.int .i64 cd.owner) by rw [hcc]; rfl)
          have HQ3 := Lib.hid (show cc[3]? = some (.int .i32 cd.health) by rw [hcc]; rfl)
          have HQ4 := Lib.hid (show cc[4]? = some (.int .i32 cd.damage) by rw [hcc]; rfl)
          have HCD := Lib.hid (show cdAt s (cn : Int) = cd by rw [hcd]; unfold cdAt; rw [Int.toNat_natCast])
          obtain ⟨cl, hcl⟩ : ∃ q, q = s.cards.length := ⟨_, rfl⟩
          rw [← hcl] at HSV hcn2
          have hcI : ((cn : Nat) : Int) < cl := by omega
          have hc0 : (0 : Int) ≤ (cn : Int) := by omega
          have how := hcdk.2.1
          have hn4 := HM.out.n4
          obtain ⟨ow, how2⟩ : ∃ q, q = cd.owner := ⟨_, rfl⟩
          obtain ⟨he, hhe⟩ : ∃ q, q = cd.health := ⟨_, rfl⟩
          obtain ⟨da, hda⟩ : ∃ q, q = cd.damage := ⟨_, rfl⟩
          have hdst : e.dst = 4 * ow + 3 := by rw [HDS.out]; unfold graveOf; rw [HCD.out, how2]
          have hnl : he ≤ da := by have h1 := HSP.out; unfold spentB at h1; rw [HCD.out, ← hhe, ← hda] at h1; exact of_decide_eq_true h1
          have how1 : ow < 4 := by have h1 := how.2; rw [how2]; omega
          have how0 : 0 ≤ ow := by rw [how2]; exact how.1
          rw [← how2] at HQ1
          rw [← hhe] at HQ3
          rw [← hda] at HQ4
          have HDST := Lib.hid hdst
          have HNL := Lib.hid hnl
          clear hev hkl c1 hRd hca hbc hrunc hcd hcdk hcc hcl how how2 hhe hda hdst hnl e0 e2
          refine wp_region_held_drew (S := fun V => V.cell? ⟨g, 1, none⟩ = some (.slice (some ⟨bc, oc, none⟩) cl x.cc) ∧ V.cell? ⟨be, oe + k * 12 + 2, none⟩ = some (.int .i64 (cn : Int)) ∧ (loadVar 39 ⟨bc, oc + cn * 6, none⟩).run Tryz.prog V = .ok (.agg cc) V) (by kernel_rfl) ?_ (fun hHeld => ?_)
          · exact HSV.out _ (Below.refl _ _)
          refine wpAnyH_take (i := 0) (oi := ⟨some 54, _, _, _, _, _⟩) (v := ?_) rfl (by kernel_rfl) (by kernel_rfl) (by kernel_rfl) (fun _ _ _ h => h) (Or.inl ⟨by rfl, ?_⟩) (by assumption) ?_
          rotate_left
          · (intro w hSw; (try dsimp only at hSw); go_split_ands; go_simp; try with_reducible rfl)
          try simp only [Act.put, List.setIfInBounds_toArray, List.set_cons_zero, List.set_cons_succ]
          refine wpAnyH_take (i := 1) (oi := ⟨some 55, _, _, _, _, _⟩) (v := ?_) rfl (by kernel_rfl) (by kernel_rfl) (by kernel_rfl) (fun _ _ _ h => h) (Or.inl ⟨by rfl, ?_⟩) (by assumption) ?_
          rotate_left
          · (intro w hSw; (try dsimp only at hSw); go_split_ands; go_simp; try with_reducible rfl)
          try simp only [Act.put, List.setIfInBounds_toArray, List.set_cons_zero, List.set_cons_succ]
          refine wpAnyH_take (i := 2) (oi := ⟨some 56, _, _, _, _, _⟩) (v := ?_) rfl (by kernel_rfl) (by kernel_rfl) (by kernel_rfl) (fun _ _ _ h => h) (Or.inl ⟨by rfl, ?_⟩) (by assumption) ?_
          rotate_left
          · (intro w hSw; (try dsimp only at hSw); go_split_ands; go_simp; try with_reducible rfl)
          try simp only [Act.put, List.setIfInBounds_toArray, List.set_cons_zero, List.set_cons_succ]
          refine wpAnyH_take (i := 3) (oi := ⟨some 57, _, _, _, _, _⟩) (v := ?_) rfl (by kernel_rfl) (by kernel_rfl) (by kernel_rfl) (fun _ _ _ h => h) (Or.inl ⟨by rfl, ?_⟩) (by assumption) ?_
          rotate_left
          · (intro w hSw; (try dsimp only at hSw); go_split_ands; go_simp; try with_reducible rfl)
          try simp only [Act.put, List.setIfInBounds_toArray, List.set_cons_zero, List.set_cons_succ]
          refine wpAnyH_take (i := 4) (oi := ⟨some 58, _, _, _, _, _⟩) (v := ?_) rfl (by kernel_rfl) (by kernel_rfl) (by kernel_rfl) (fun _ _ _ h => h) (Or.inl ⟨by rfl, ?_⟩) (by assumption) ?_
          rotate_left
          · (intro w hSw; (try dsimp only at hSw); go_split_ands; go_simp; try with_reducible rfl)
          try simp only [Act.put, List.setIfInBounds_toArray, List.set_cons_zero, List.set_cons_succ]
          refine wpAnyH_take (i := 5) (oi := ⟨some 59, _, _, _, _, _⟩) (v := ?_) rfl (by kernel_rfl) (by kernel_rfl) (by kernel_rfl) (fun _ _ _ h => h) (Or.inl ⟨by rfl, ?_⟩) (by assumption) ?_
          rotate_left
          · (intro w hSw; (try dsimp only at hSw); go_split_ands; go_simp; try with_reducible rfl)
          try simp only [Act.put, List.setIfInBounds_toArray, List.set_cons_zero, List.set_cons_succ]
          refine wpAnyH_take (i := 6) (oi := ⟨some 60, _, _, _, _, _⟩) (v := ?_) rfl (by kernel_rfl) (by kernel_rfl) (by kernel_rfl) (fun _ _ _ h => h) (Or.inl ⟨by rfl, ?_⟩) (by assumption) ?_
          rotate_left
          · (intro w hSw; (try dsimp only at hSw); go_split_ands; go_simp; try with_reducible rfl)
          try simp only [Act.put, List.setIfInBounds_toArray, List.set_cons_zero, List.set_cons_succ]
          refine wpAnyH_take (i := 7) (oi := ⟨some 61, _, _, _, _, _⟩) (v := ?_) rfl (by kernel_rfl) (by kernel_rfl) (by kernel_rfl) (fun _ _ _ h => h) (Or.inl ⟨by rfl, ?_⟩) (by assumption) ?_
          rotate_left
          · (intro w hSw; (try dsimp only at hSw); go_split_ands; go_simp; try with_reducible rfl)
          try simp only [Act.put, List.setIfInBounds_toArray, List.set_cons_zero, List.set_cons_succ]
          refine wpAnyH_take (i := 8) (oi := ⟨some 62, _, _, _, _, _⟩) (v := ?_) rfl (by kernel_rfl) (by kernel_rfl) (by kernel_rfl) (fun _ _ _ h => h) (Or.inl ⟨by rfl, ?_⟩) (by assumption) ?_
          rotate_left
          · (intro w hSw; refine exec_load_at2 39 (.tmp 61) ?_ bc (oc + cn * 6) ?_ cc hSw.2.2 <;> rfl)
          try simp only [Act.put, List.setIfInBounds_toArray, List.set_cons_zero, List.set_cons_succ]
          refine wpAnyH_ready (rs := [9]) (by kernel_rfl) (by simp) ?_
          refine AllReadyH.cons rfl (fun K hK => ?_) AllReadyH.nil
          go_simp
          go_wp2_with fail
          refine hK.out _ _ ?_ (fun hHeld => ?_)
          · exact HSV.out _ (G.bl_alloc (Below.refl _ _) _)
          clear hK K
          try simp only [Act.put, List.setIfInBounds_toArray, List.set_cons_zero, List.set_cons_succ]
          refine wpAnyH_ready (rs := [10]) (by kernel_rfl) (by simp) ?_
          refine AllReadyH.cons rfl (fun K hK => ?_) AllReadyH.nil
          refine wp_store_row 39 (.tmp 11) (.tmp 62) rfl _ cc rfl rfl 39 _ (heap_alloc_new _ _) (by rw [HSC.out]; exact sizeCd25) (by rw [HSC.out]; rfl) HAC.out ?_
          try simp only [Act.put, List.getElem_toArray, List.getElem_cons_succ, List.getElem_cons_zero]
          refine hK.out _ _ ?_ (fun hHeld => ?_)
          · exact HSV.out _ (below_setRow (G.bl_alloc (Below.refl _ _) _) (Nat.le_refl _) _)
          clear hK K
          try simp only [Act.put, List.setIfInBounds_toArray, List.set_cons_zero, List.set_cons_succ]
          refine wpAnyH_done (by kernel_rfl) ?_ _
          generalize hwA : World.setRow _ _ _ = wA
          have hqA : Below w3.heap.size w3 wA := by rw [← hwA]; exact below_setRow ((G.bl_alloc (Below.refl _ _) _).drew) (Nat.le_refl _) _
          have hrA : G.Blk wA w3.heap.size 39 cc := by rw [← hwA]; exact setRow_heap _ _ _ _ _ _ (show G.Blk (w3.alloc _).drew _ _ _ from G.Blk.new w3 _ _)
          have HQA := Lib.hid hqA
          generalize hgC : w3.heap.size = gC at hrA ⊢
          have dA := (hrA.cell 4).trans HQ4.out
          have eA := (hrA.cell 3).trans HQ3.out
          have oA := (hrA.cell 1).trans HQ1.out
          have lA := hrA.lt
          have e5 : wA.cell? ⟨be, oe + k * 12 + 5, none⟩ = some (.int .i64 e.src) := (HQA.out.cell (p := ⟨be, oe + k * 12 + 5, none⟩) hbe).trans E5.out
          have e7 : wA.cell? ⟨be, oe + k * 12 + 7, none⟩ = some (.int .i64 (4 * ow + 3)) := by rw [← HDST.out]; exact (HQA.out.cell (p := ⟨be, oe + k * 12 + 7, none⟩) hbe).trans E7.out
          have lbe : be < wA.heap.size := Nat.lt_of_lt_of_le hbe HQA.out.size
          have hnl : ¬ da < he := by have := HNL.out; omega
          have hrem := HREM.out
          clear hwA hqA hrA hgC hHeld
          go_upto_region 18 with (fail)
          go_region
          go_wp2_with fail
          go_roundw
          case rel =>
            refine ⟨k + 1, by omega, by go_num, by rw [HS1.out, if_pos hka], ?_, (G.bl_trans HB3.out HQA.out).drew⟩
            rw [HTK.out, List.length_append, ← HQ.out]
            have h9 := G.own_below HOWN3.out HQA.out.drew
            simpa [i64s] using h9
          case measure => (simp [intOf]; omega)
      · have HT7 := Lib.hid (show Dl.take (k + 1) = Dl.take k by rw [List.take_of_length_le (by rw [HDA.out]; omega), List.take_of_length_le (by rw [HDA.out]; omega)])
        by_cases hkb : k < b
        · as_aux_lemma =>
            have hkd := HD.out.out k (by omega) hkb
            rw [HEK.out] at hkd
            rw [hkd] at e0
            have hst : s0 ≤ 1 ∧ 0 ≤ s0 := by have h1 := HS0.out; have h2 := HS1.out; rw [if_neg hka, if_pos hkb] at h2; omega
            obtain ⟨hst1, hst0⟩ := hst
            clear hkd e2 e5 e7
            go_wp2_with fail
            go_roundw
            case rel => exact ⟨k + 1, by omega, by go_num, by rw [HS1.out, if_neg hka, if_pos hkb], by rw [HT7.out, ← HQ.out]; exact HOW.out, HBL.out⟩
            case measure => (simp [intOf]; omega)
        · as_aux_lemma =>
            have hkd := HD.out.fin k (by omega) (by rw [List.length_map, HLN.out]; exact hlt)
            rw [HEK.out] at hkd
            rw [hkd] at e0
            have hst : s0 ≤ 2 ∧ 0 ≤ s0 := by have h1 := HS0.out; have h2 := HS1.out; rw [if_neg hka, if_neg hkb] at h2; omega
            obtain ⟨hst1, hst0⟩ := hst
            clear hkd e2 e5 e7
            go_wp2_with fail
            go_roundw
            case rel => exact ⟨k + 1, by omega, by go_num, by rw [HS1.out, if_neg hka, if_neg hkb], by rw [HT7.out, ← HQ.out]; exact HOW.out, HBL.out⟩
            case measure => (simp [intOf]; omega)
    · have hkI : ¬ (k : Int) < n6 := by omega
      obtain rfl : k = n6 := by omega
      rw [List.take_of_length_le (by rw [HDA.out]; exact han)] at HOW HQ
      have HOWB := Lib.hid (show G.RdS wr A7 1 q (i64s Dl) from G.RdS.of_own HOW.out)
      have HQD0 := Lib.hid (show Dl.length = q from HQ.out.symm)
      have HXr := Lib.hid (HKg.out.below HBL.out HKg.out.lt)
      have HYr := Lib.hid (HKg6.out.below HBL.out HKg6.out.lt)
      obtain ⟨htc, htt, htw, htp, htz⟩ := HTU.out
      have HTZ := Lib.hid htz
      have HTP := Lib.hid htp
      have c1 : wr.cell? ⟨g, 1, none⟩ = some (.slice x.ca s.cards.length x.cc) := by have h9 := HXr.out; rw [HCX.out] at h9; exact h9.cell 1
      have d1 : wr.cell? ⟨g6, 1, none⟩ = some (.slice x6.ca s.cards.length x6.cc) := by have h9 := HYr.out; rw [HCcy.out] at h9; rw [← htc]; exact h9.cell 1
      have HEQC := Lib.hid (show Calls Tryz.prog 10 #[.slice x.ca s.cards.length x.cc, .slice x6.ca s.cards.length x6.cc] wr (BoolPost true wr) from by
        have hc2 : G.RdS wr x6.ca 6 s.cards.length (flatC s.cards) := by have h9 := ((HO6.out.below HBL.out).rd).c; rw [htc] at h9; exact h9
        have h256 := HM.out.m256
        exact (eqCards_any x.ca x6.ca s.cards.length s.cards.length x.cc x6.cc s.cards s.cards wr (HR.out.below HBL.out).c hc2 (by unfold maxLen; omega) (by unfold maxLen; omega)).mono fun e w' ⟨h1, k, h2⟩ => ⟨by rw [h1, decide_eq_true rfl], by rw [h2]; exact Bl.dn (Below.refl _ _) _⟩)
      obtain ⟨ncl, hncl⟩ : ∃ q, q = s.cards.length := ⟨_, rfl⟩
      rw [← hncl] at c1 d1 HEQC
      have lx0 := HXr.out.lt
      have ly0 := HYr.out.lt
      clear hncl
      go_wp2_with fail
      refine (HEQC.out).mono ?_
      rintro e8 w8 ⟨rfl, hb8⟩
      have HBL8 := Lib.hid (G.bl_trans HBL.out hb8)
      have HOW8 := Lib.hid (HOWB.out.below hb8)
      have HX8 := Lib.hid (HXr.out.below hb8 HXr.out.lt)
      have HY8 := Lib.hid (HYr.out.below hb8 HYr.out.lt)
      have c3 : w8.cell? ⟨g, 3, none⟩ = some (.int .i32 s.turn) := by have h9 := HX8.out; rw [HCX.out] at h9; exact h9.cell 3
      have d3 : w8.cell? ⟨g6, 3, none⟩ = some (.int .i32 s.turn) := by have h9 := HY8.out; rw [HCcy.out] at h9; rw [← htt]; exact h9.cell 3
      have c4 : w8.cell? ⟨g, 4, none⟩ = some (.int .i64 s.whose) := by have h9 := HX8.out; rw [HCX.out] at h9; exact h9.cell 4
      have d4 : w8.cell? ⟨g6, 4, none⟩ = some (.int .i64 s.whose) := by have h9 := HY8.out; rw [HCcy.out] at h9; rw [← htw]; exact h9.cell 4
      have lx := HX8.out.lt
      have ly := HY8.out.lt
      generalize s.turn = tu at c3 d3
      generalize s.whose = wh at c4 d4
      clear hb8 c1 d1 htc htt htw htp htz lx0 ly0
      go_upto_region 30 with (fail)
      obtain ⟨zn, hzn⟩ : ∃ q, q = s.zones.length := ⟨_, rfl⟩
      have HZN := Lib.hid hzn
      have hzn16 : zn ≤ 16 := by rw [hzn]; have h1 := HM.out.zn; have h2 := HM.out.n4; omega
      have hznI : (zn : Int) ≤ 16 := by omega
      clear c3 d3 c4 d4 hzn lx ly
      go_loopw [12] (fun i wi => ∃ z : Nat, z ≤ zn ∧ i = .int .i64 (z : Int) ∧ Below w8.heap.size w8 wi) (fun i _ => zn - (intOf i).toNat)
      case atStart => exact ⟨0, Nat.zero_le _, rfl, Below.refl _ _⟩
      case round =>
        obtain ⟨z, hz, rfl, hbz⟩ := hrel
        have HBZ8 := Lib.hid hbz
        have HB7 := Lib.hid (G.bl_trans HBL8.out hbz)
        have HXz := Lib.hid (HX8.out.below hbz HX8.out.lt)
        have HYz := Lib.hid (HY8.out.below hbz HY8.out.lt)
        have hz0 : (0 : Int) ≤ z := by omega
        have c2 : wr.cell? ⟨g, 2, none⟩ = some (.slice x.za zn x.zc) := by have h9 := HXz.out; rw [HCX.out] at h9; rw [HZN.out]; exact h9.cell 2
        have lx := HXz.out.lt
        clear hbz
        by_cases hlt : z < zn
        · have hzI : (z : Int) < zn := by omega
          have hzs : z < s.zones.length := by rw [← HZN.out]; exact hlt
          have hzt : z < t6.zones.length := by rw [HTZ.out]; exact hzs
          have HRz := HR.out.below HB7.out
          have HOz := HO6.out.below HB7.out
          obtain ⟨bz, oz, hza, hcr⟩ := rows_at (i := z) HRz.z hzs
          rw [hza] at c2
          obtain ⟨ra, rk, hrv, hrr⟩ := HRz.rows z hzs
          rw [hrv] at hcr
          have lz := World.block_lt_of_cell? _ _ hcr
          obtain ⟨bt, ot, hta, htr⟩ := rows_at (i := z) HOz.rd.z hzt
          have hrow := HOz.rows z hzt
          obtain ⟨At, ct, hvt⟩ := G.own_shape hrow
          rw [hvt] at hrow htr
          obtain ⟨hct, hAt⟩ := own_caps hrow
          have lt := World.block_lt_of_cell? _ _ htr
          have hs256 := may_zone HM.out z
          have ht256 := may_zone HMT.out z
          obtain ⟨X, hZ⟩ := zone_due HM.out hzs
          rw [← HT.out, ← HDL.out] at hZ
          obtain ⟨Lf, hLf⟩ : ∃ q, q = restL (s.zones.getD z []) Dl false := ⟨_, rfl⟩
          obtain ⟨m, hm⟩ : ∃ q, q = (s.zones.getD z []).length := ⟨_, rfl⟩
          obtain ⟨mt, hmt⟩ : ∃ q, q = (t6.zones.getD z []).length := ⟨_, rfl⟩
          have hmX : mt = Lf.length + X.length := by rw [hmt, hZ.eq, List.length_append, hLf]
          have HREST := Lib.hid (show Calls Tryz.prog 11 #[.slice ra m rk, .slice A7 q c7, .bool false] wr (RestPost Lf wr) from by
            rw [hLf, hm]
            exact rest_any ra A7 _ rk q c7 (s.zones.getD z []) Dl false wr rfl HQD0.out hrr (HOW8.out.below HBZ8.out) (by omega) hqn)
          rw [← hm] at hcr
          rw [← hmt] at htr hct
          have HRT := Lib.hid (show G.RdS wr At 1 mt (i64s (Lf ++ X)) by have h9 := G.RdS.of_own hrow; rw [← hmt, hZ.eq, ← hLf] at h9; exact h9)
          have HXM := Lib.hid hmX
          have HLEFT := Lib.hid (show z % 4 ≠ 2 → Lf.length = m from fun h => by rw [hLf, hZ.left h, hm])
          have HNONE := Lib.hid (show z % 4 ≠ 3 → X = [] from hZ.none)
          have HGONE := Lib.hid hZ.gone
          have HMINE := Lib.hid hZ.mine.symm
          have hm256 : m ≤ 256 := by rw [hm]; exact hs256
          have hmt256 : mt ≤ 256 := by rw [hmt]; exact ht256
          have HCR := Lib.hid hcr
          have HTR := Lib.hid htr
          have d2 : wr.cell? ⟨g6, 2, none⟩ = some (.slice (some ⟨bt, ot, none⟩) zn x6.zc) := by have h9 := HYz.out; rw [HCcy.out] at h9; rw [HZN.out, ← HTZ.out, ← hta]; exact h9.cell 2
          have D2 := Lib.hid d2
          have C2 := Lib.hid c2
          clear hza hrv hrr hta hrow hvt hs256 ht256 hZ hLf hm hmt hmX HRz HOz d2 htr
          go_wp2_with fail
          refine (HREST.out).mono ?_
          rintro e13 w13 ⟨A13, n13, c13, rfl, ho13, hb13⟩
          have hn13 := own_len1 ho13
          have HR13 := Lib.hid (G.RdS.of_own ho13)
          have HB13 := Lib.hid hb13
          have hnm : n13 ≤ mt := by rw [HXM.out]; omega
          obtain ⟨Ap, cp, hsl, hrd⟩ := pre_int At mt ct n13 hct hAt hnm
          obtain ⟨As, ca, hsl2, hrd2⟩ := suf_int At mt ct n13 hct hAt hnm
          have hlm : (Lf ++ X).length = mt := by rw [List.length_append]; exact HXM.out.symm
          have HRP := Lib.hid (show ∀ W, Below wr.heap.size wr W → G.RdS W Ap 1 n13 (i64s Lf) from fun W hW => by have h9 := hrd W _ hlm (HRT.out.below hW); rw [hn13, List.take_left] at h9; rw [hn13]; exact h9)
          have HRS := Lib.hid (show ∀ W, Below wr.heap.size wr W → G.RdS W As 1 (mt - n13) (i64s X) from fun W hW => by have h9 := hrd2 W _ hlm (HRT.out.below hW); rw [hn13, List.drop_left] at h9; rw [hn13]; exact h9)
          obtain ⟨k2, hk2⟩ : ∃ q, q = mt - n13 := ⟨_, rfl⟩
          have HK2 := Lib.hid hk2
          have hk2X : X.length = k2 := by rw [hk2, HXM.out, hn13]; omega
          rw [← hk2] at hsl2 HRS
          have hkl : k2 ≤ 33554432 := by omega
          have hnl : n13 ≤ 33554432 := by omega
          have HN13 := Lib.hid hn13
          have HEQI := Lib.hid (show Calls Tryz.prog 12 #[.slice Ap n13 cp, .slice A13 n13 c13] w13 (BoolPost true w13) from eqInts_yes Ap A13 n13 cp c13 Lf w13 (HRP.out _ HB13.out) HR13.out hnl)
          have c2 := (HB13.out.cell (p := ⟨g, 2, none⟩) HXz.out.lt).trans C2.out
          have hcr := (HB13.out.cell (p := ⟨bz, oz + z, none⟩) lz).trans HCR.out
          have d2 := (HB13.out.cell (p := ⟨g6, 2, none⟩) HYz.out.lt).trans D2.out
          have htr := (HB13.out.cell (p := ⟨bt, ot + z, none⟩) lt).trans HTR.out
          have lz13 := World.block_lt_of_cell? _ _ hcr
          have lt13 := World.block_lt_of_cell? _ _ htr
          have lg13 := World.block_lt_of_cell? _ _ c2
          have ld13 := World.block_lt_of_cell? _ _ d2
          have hnmI : (n13 : Int) ≤ mt := by omega
          have hn0 : (0 : Int) ≤ n13 := by omega
          have HK2X := Lib.hid hk2X
          have HQD := HQD0
          clear hct hAt hrd hrd2 hlm hb13 ho13 hn13 hk2 hk2X
          by_cases hz2 : z % 4 = 2
          · as_aux_lemma =>
              have hrem : (z : Int).tmod 4 = 2 := by rw [Int.tmod_eq_emod_of_nonneg (by omega)]; omega
              have hx0 := HNONE.out (by omega)
              obtain rfl : n13 = mt := by rw [HXM.out, hx0, HN13.out]; rfl
              clear hx0 hnmI hnm
              go_wp2_with fail
              refine (HEQI.out).mono ?_
              rintro e14 w14 ⟨rfl, hb14⟩
              have HB14 := Lib.hid (G.bl_trans HB13.out hb14)
              have HREST2 := Lib.hid (show Calls Tryz.prog 11 #[.slice As k2 ca, .slice A7 q c7, .bool false] w14 (RestPost [] w14) from by
                have h9 := rest_any As A7 k2 ca q c7 X Dl false w14 HK2X.out HQD.out (HRS.out _ HB14.out) ((HOW8.out.below HBZ8.out).below HB14.out) hkl hqn
                rw [HGONE.out] at h9
                exact h9)
              have d2 := (HB14.out.cell (p := ⟨g6, 2, none⟩) HYz.out.lt).trans D2.out
              have htr := (HB14.out.cell (p := ⟨bt, ot + z, none⟩) lt).trans HTR.out
              have lt14 := World.block_lt_of_cell? _ _ htr
              have ld14 := World.block_lt_of_cell? _ _ d2
              clear hb14 c2 hcr
              go_wp2_with fail
              refine (HREST2.out).mono ?_
              rintro e15 w15 ⟨A15, n15, c15, rfl, ho15, hb15⟩
              obtain rfl : n15 = 0 := own_len1 ho15
              have HB15 := Lib.hid (G.bl_trans HB14.out hb15)
              clear ho15 hb15
              go_upto_region 38 with (fail)
              refine wp_region_held_drew (S := fun V => True) (by kernel_rfl) ?_ (fun hHeld => ?_)
              · exact trivial
              refine wpAnyH_take (i := 0) (oi := ⟨some 194, _, _, _, _, _⟩) (v := ?_) rfl (by kernel_rfl) (by kernel_rfl) (by kernel_rfl) (fun _ _ _ h => h) (Or.inl ⟨by rfl, ?_⟩) (by assumption) ?_
              rotate_left
              · (intro w hSw; (try dsimp only at hSw); go_split_ands; go_simp; try with_reducible rfl)
              try simp only [Act.put, List.setIfInBounds_toArray, List.set_cons_zero, List.set_cons_succ]
              refine wpAnyH_take (i := 1) (oi := ⟨some 195, _, _, _, _, _⟩) (v := ?_) rfl (by kernel_rfl) (by kernel_rfl) (by kernel_rfl) (fun _ _ _ h => h) (Or.inl ⟨by rfl, ?_⟩) (by assumption) ?_
              rotate_left
              · (intro w hSw; (try dsimp only at hSw); go_split_ands; go_simp; try with_reducible rfl)
              try simp only [Act.put, List.setIfInBounds_toArray, List.set_cons_zero, List.set_cons_succ]
              refine wpAnyH_take (i := 2) (oi := ⟨some 196, _, _, _, _, _⟩) (v := ?_) rfl (by kernel_rfl) (by kernel_rfl) (by kernel_rfl) (fun _ _ _ h => h) (Or.inl ⟨by rfl, ?_⟩) (by assumption) ?_
              rotate_left
              · (intro w hSw; (try dsimp only at hSw); go_split_ands; go_simp; try with_reducible rfl)
              try simp only [Act.put, List.setIfInBounds_toArray, List.set_cons_zero, List.set_cons_succ]
              refine wpAnyH_take (i := 3) (oi := ⟨some 197, _, _, _, _, _⟩) (v := ?_) rfl (by kernel_rfl) (by kernel_rfl) (by kernel_rfl) (fun _ _ _ h => h) (Or.inl ⟨by rfl, ?_⟩) (by assumption) ?_
              rotate_left
              · (intro w hSw; (try dsimp only at hSw); go_split_ands; go_simp; try with_reducible rfl)
              try simp only [Act.put, List.setIfInBounds_toArray, List.set_cons_zero, List.set_cons_succ]
              refine wpAnyH_take (i := 4) (oi := ⟨some 198, _, _, _, _, _⟩) (v := undef) rfl (by kernel_rfl) (by kernel_rfl) (by kernel_rfl) (fun _ _ _ h => h) (Or.inr ⟨by rfl, rfl⟩) (by assumption) ?_
              try simp only [Act.put, List.setIfInBounds_toArray, List.set_cons_zero, List.set_cons_succ]
              refine wpAnyH_take (i := 5) (oi := ⟨some 199, _, _, _, _, _⟩) (v := undef) rfl (by kernel_rfl) (by kernel_rfl) (by kernel_rfl) (fun _ _ _ h => h) (Or.inr ⟨by rfl, rfl⟩) (by assumption) ?_
              try simp only [Act.put, List.setIfInBounds_toArray, List.set_cons_zero, List.set_cons_succ]
              refine wpAnyH_take (i := 6) (oi := ⟨some 200, _, _, _, _, _⟩) (v := undef) rfl (by kernel_rfl) (by kernel_rfl) (by kernel_rfl) (fun _ _ _ h => h) (Or.inr ⟨by rfl, rfl⟩) (by assumption) ?_
              try simp only [Act.put, List.setIfInBounds_toArray, List.set_cons_zero, List.set_cons_succ]
              refine wpAnyH_take (i := 7) (oi := ⟨some 201, _, _, _, _, _⟩) (v := undef) rfl (by kernel_rfl) (by kernel_rfl) (by kernel_rfl) (fun _ _ _ h => h) (Or.inr ⟨by rfl, rfl⟩) (by assumption) ?_
              try simp only [Act.put, List.setIfInBounds_toArray, List.set_cons_zero, List.set_cons_succ]
              refine wpAnyH_take (i := 8) (oi := ⟨some 202, _, _, _, _, _⟩) (v := undef) rfl (by kernel_rfl) (by kernel_rfl) (by kernel_rfl) (fun _ _ _ h => h) (Or.inr ⟨by rfl, rfl⟩) (by assumption) ?_
              try simp only [Act.put, List.setIfInBounds_toArray, List.set_cons_zero, List.set_cons_succ]
              refine wpAnyH_take (i := 9) (oi := ⟨some 203, _, _, _, _, _⟩) (v := undef) rfl (by kernel_rfl) (by kernel_rfl) (by kernel_rfl) (fun _ _ _ h => h) (Or.inr ⟨by rfl, rfl⟩) (by assumption) ?_
              try simp only [Act.put, List.setIfInBounds_toArray, List.set_cons_zero, List.set_cons_succ]
              refine wpAnyH_take (i := 10) (oi := ⟨some 204, _, _, _, _, _⟩) (v := undef) rfl (by kernel_rfl) (by kernel_rfl) (by kernel_rfl) (fun _ _ _ h => h) (Or.inr ⟨by rfl, rfl⟩) (by assumption) ?_
              try simp only [Act.put, List.setIfInBounds_toArray, List.set_cons_zero, List.set_cons_succ]
              refine wpAnyH_take (i := 11) (oi := ⟨some 205, _, _, _, _, _⟩) (v := undef) rfl (by kernel_rfl) (by kernel_rfl) (by kernel_rfl) (fun _ _ _ h => h) (Or.inr ⟨by rfl, rfl⟩) (by assumption) ?_
              try simp only [Act.put, List.setIfInBounds_toArray, List.set_cons_zero, List.set_cons_succ]
              refine wpAnyH_take (i := 12) (oi := ⟨some 206, _, _, _, _, _⟩) (v := undef) rfl (by kernel_rfl) (by kernel_rfl) (by kernel_rfl) (fun _ _ _ h => h) (Or.inr ⟨by rfl, rfl⟩) (by assumption) ?_
              try simp only [Act.put, List.setIfInBounds_toArray, List.set_cons_zero, List.set_cons_succ]
              refine wpAnyH_take (i := 13) (oi := ⟨some 207, _, _, _, _, _⟩) (v := undef) rfl (by kernel_rfl) (by kernel_rfl) (by kernel_rfl) (fun _ _ _ h => h) (Or.inr ⟨by rfl, rfl⟩) (by assumption) ?_
              try simp only [Act.put, List.setIfInBounds_toArray, List.set_cons_zero, List.set_cons_succ]
              refine wpAnyH_take (i := 14) (oi := ⟨some 208, _, _, _, _, _⟩) (v := undef) rfl (by kernel_rfl) (by kernel_rfl) (by kernel_rfl) (fun _ _ _ h => h) (Or.inr ⟨by rfl, rfl⟩) (by assumption) ?_
              try simp only [Act.put, List.setIfInBounds_toArray, List.set_cons_zero, List.set_cons_succ]
              refine wpAnyH_take (i := 15) (oi := ⟨some 209, _, _, _, _, _⟩) (v := undef) rfl (by kernel_rfl) (by kernel_rfl) (by kernel_rfl) (fun _ _ _ h => h) (Or.inr ⟨by rfl, rfl⟩) (by assumption) ?_
              try simp only [Act.put, List.setIfInBounds_toArray, List.set_cons_zero, List.set_cons_succ]
              refine wpAnyH_take (i := 16) (oi := ⟨some 210, _, _, _, _, _⟩) (v := undef) rfl (by kernel_rfl) (by kernel_rfl) (by kernel_rfl) (fun _ _ _ h => h) (Or.inr ⟨by rfl, rfl⟩) (by assumption) ?_
              try simp only [Act.put, List.setIfInBounds_toArray, List.set_cons_zero, List.set_cons_succ]
              refine wpAnyH_take (i := 17) (oi := ⟨some 211, _, _, _, _, _⟩) (v := undef) rfl (by kernel_rfl) (by kernel_rfl) (by kernel_rfl) (fun _ _ _ h => h) (Or.inr ⟨by rfl, rfl⟩) (by assumption) ?_
              try simp only [Act.put, List.setIfInBounds_toArray, List.set_cons_zero, List.set_cons_succ]
              refine wpAnyH_take (i := 18) (oi := ⟨some 212, _, _, _, _, _⟩) (v := undef) rfl (by kernel_rfl) (by kernel_rfl) (by kernel_rfl) (fun _ _ _ h => h) (Or.inr ⟨by rfl, rfl⟩) (by assumption) ?_
              try simp only [Act.put, List.setIfInBounds_toArray, List.set_cons_zero, List.set_cons_succ]
              refine wpAnyH_take (i := 19) (oi := ⟨some 213, _, _, _, _, _⟩) (v := undef) rfl (by kernel_rfl) (by kernel_rfl) (by kernel_rfl) (fun _ _ _ h => h) (Or.inr ⟨by rfl, rfl⟩) (by assumption) ?_
              try simp only [Act.put, List.setIfInBounds_toArray, List.set_cons_zero, List.set_cons_succ]
              refine wpAnyH_take (i := 20) (oi := ⟨some 214, _, _, _, _, _⟩) (v := undef) rfl (by kernel_rfl) (by kernel_rfl) (by kernel_rfl) (fun _ _ _ h => h) (Or.inr ⟨by rfl, rfl⟩) (by assumption) ?_
              try simp only [Act.put, List.setIfInBounds_toArray, List.set_cons_zero, List.set_cons_succ]
              refine wpAnyH_take (i := 21) (oi := ⟨some 215, _, _, _, _, _⟩) (v := undef) rfl (by kernel_rfl) (by kernel_rfl) (by kernel_rfl) (fun _ _ _ h => h) (Or.inr ⟨by rfl, rfl⟩) (by assumption) ?_
              try simp only [Act.put, List.setIfInBounds_toArray, List.set_cons_zero, List.set_cons_succ]
              refine wpAnyH_take (i := 22) (oi := ⟨some 216, _, _, _, _, _⟩) (v := ?_) rfl (by kernel_rfl) (by kernel_rfl) (by kernel_rfl) (fun _ _ _ h => h) (Or.inl ⟨by rfl, ?_⟩) (by assumption) ?_
              rotate_left
              · (intro w hSw; (try dsimp only at hSw); go_split_ands; go_simp; try with_reducible rfl)
              try simp only [Act.put, List.setIfInBounds_toArray, List.set_cons_zero, List.set_cons_succ]
              refine wpAnyH_done (by kernel_rfl) ?_ _
              go_wp2_with fail
              go_roundw
              case rel => exact ⟨z + 1, by omega, by go_num, G.bl_trans HBZ8.out (HB15.out.drew)⟩
              case measure => (simp [intOf]; omega)
          · by_cases hz3 : z % 4 = 3
            · as_aux_lemma =>
                have hrem : (z : Int).tmod 4 = 3 := by rw [Int.tmod_eq_emod_of_nonneg (by omega)]; omega
                have hl3 := HLEFT.out (by omega)
                obtain rfl : n13 = m := by rw [HN13.out]; exact hl3
                clear hl3
                go_wp2_with fail
                refine (HEQI.out).mono ?_
                rintro e14 w14 ⟨rfl, hb14⟩
                have HB14 := Lib.hid (G.bl_trans HB13.out hb14)
                have HREST2 := Lib.hid (show Calls Tryz.prog 11 #[.slice As k2 ca, .slice A7 q c7, .bool false] w14 (RestPost [] w14) from by
                  have h9 := rest_any As A7 k2 ca q c7 X Dl false w14 HK2X.out HQD.out (HRS.out _ HB14.out) ((HOW8.out.below HBZ8.out).below HB14.out) hkl hqn
                  rw [HGONE.out] at h9
                  exact h9)
                have d2 := (HB14.out.cell (p := ⟨g6, 2, none⟩) HYz.out.lt).trans D2.out
                have htr := (HB14.out.cell (p := ⟨bt, ot + z, none⟩) lt).trans HTR.out
                have lt14 := World.block_lt_of_cell? _ _ htr
                have ld14 := World.block_lt_of_cell? _ _ d2
                clear hb14 c2 hcr
                go_wp2_with fail
                refine (HREST2.out).mono ?_
                rintro e15 w15 ⟨A15, n15, c15, rfl, ho15, hb15⟩
                obtain rfl : n15 = 0 := own_len1 ho15
                have HB15 := Lib.hid (G.bl_trans HB14.out hb15)
                clear ho15 hb15
                go_upto_region 38 with (fail)
                have HD2 := Lib.hid (show w15.drew.cell? ⟨g6, 2, none⟩ = some (.slice (some ⟨bt, ot, none⟩) zn x6.zc) from (HB15.out.cell (p := ⟨g6, 2, none⟩) HYz.out.lt).trans D2.out)
                have HTR2 := Lib.hid (show w15.drew.cell? ⟨bt, ot + z, none⟩ = some (.slice At mt ct) from (HB15.out.cell (p := ⟨bt, ot + z, none⟩) lt).trans HTR.out)
                have HBD := Lib.hid (show Below wr.heap.size wr w15.drew from HB15.out.drew)
                have hb1 : bt < w15.drew.heap.size := Nat.lt_of_lt_of_le lt HBD.out.size
                have hb2 : g6 < w15.drew.heap.size := Nat.lt_of_lt_of_le HYz.out.lt HBD.out.size
                have HSV := Lib.hid (show ∀ V, Below w15.drew.heap.size w15.drew V → V.cell? ⟨g6, 2, none⟩ = some (.slice (some ⟨bt, ot, none⟩) zn x6.zc) ∧ V.cell? ⟨bt, ot + z, none⟩ = some (.slice At mt ct) ∧ Below w15.drew.heap.size w15.drew V from fun V hV => ⟨(hV.cell (p := ⟨g6, 2, none⟩) hb2).trans HD2.out, (hV.cell (p := ⟨bt, ot + z, none⟩) hb1).trans HTR2.out, hV⟩)
                have HRS3 := Lib.hid (show Calls Tryz.prog 11 #[.slice A7 q c7, .slice As k2 ca, .bool true] w15.drew (RestPost X w15.drew) from by
                  have h9 := rest_any A7 As q c7 k2 ca Dl X true w15.drew HQD.out HK2X.out ((HOW8.out.below HBZ8.out).below HBD.out) (HRS.out _ HBD.out) hqn hkl
                  rw [HMINE.out] at h9
                  exact h9)
                refine wp_region_held_drew (S := fun V => V.cell? ⟨g6, 2, none⟩ = some (.slice (some ⟨bt, ot, none⟩) zn x6.zc) ∧ V.cell? ⟨bt, ot + z, none⟩ = some (.slice At mt ct) ∧ Below w15.drew.heap.size w15.drew V) (by kernel_rfl) ?_ (fun hHeld => ?_)
                · exact HSV.out _ (Below.refl _ _)
                refine wpAnyH_take (i := 0) (oi := ⟨some 194, _, _, _, _, _⟩) (v := ?_) rfl (by kernel_rfl) (by kernel_rfl) (by kernel_rfl) (fun _ _ _ h => h) (Or.inl ⟨by rfl, ?_⟩) (by assumption) ?_
                rotate_left
                · (intro w hSw; (try dsimp only at hSw); go_split_ands; go_simp; try with_reducible rfl)
                try simp only [Act.put, List.setIfInBounds_toArray, List.set_cons_zero, List.set_cons_succ]
                refine wpAnyH_take (i := 1) (oi := ⟨some 195, _, _, _, _, _⟩) (v := ?_) rfl (by kernel_rfl) (by kernel_rfl) (by kernel_rfl) (fun _ _ _ h => h) (Or.inl ⟨by rfl, ?_⟩) (by assumption) ?_
                rotate_left
                · (intro w hSw; (try dsimp only at hSw); go_split_ands; go_simp; try with_reducible rfl)
                try simp only [Act.put, List.setIfInBounds_toArray, List.set_cons_zero, List.set_cons_succ]
                refine wpAnyH_take (i := 2) (oi := ⟨some 196, _, _, _, _, _⟩) (v := ?_) rfl (by kernel_rfl) (by kernel_rfl) (by kernel_rfl) (fun _ _ _ h => h) (Or.inl ⟨by rfl, ?_⟩) (by assumption) ?_
                rotate_left
                · (intro w hSw; (try dsimp only at hSw); go_split_ands; go_simp; try with_reducible rfl)
                try simp only [Act.put, List.setIfInBounds_toArray, List.set_cons_zero, List.set_cons_succ]
                refine wpAnyH_take (i := 3) (oi := ⟨some 197, _, _, _, _, _⟩) (v := ?_) rfl (by kernel_rfl) (by kernel_rfl) (by kernel_rfl) (fun _ _ _ h => h) (Or.inl ⟨by rfl, ?_⟩) (by assumption) ?_
                rotate_left
                · (intro w hSw; (try dsimp only at hSw); go_split_ands; go_simp; try with_reducible rfl)
                try simp only [Act.put, List.setIfInBounds_toArray, List.set_cons_zero, List.set_cons_succ]
                refine wpAnyH_take (i := 4) (oi := ⟨some 198, _, _, _, _, _⟩) (v := ?_) rfl (by kernel_rfl) (by kernel_rfl) (by kernel_rfl) (fun _ _ _ h => h) (Or.inl ⟨by rfl, ?_⟩) (by assumption) ?_
                rotate_left
                · (intro w hSw; (try dsimp only at hSw); go_split_ands; go_simp; try with_reducible rfl)
                try simp only [Act.put, List.setIfInBounds_toArray, List.set_cons_zero, List.set_cons_succ]
                refine wpAnyH_take (i := 5) (oi := ⟨some 199, _, _, _, _, _⟩) (v := ?_) rfl (by kernel_rfl) (by kernel_rfl) (by kernel_rfl) (fun _ _ _ h => h) (Or.inl ⟨by rfl, ?_⟩) (by assumption) ?_
                rotate_left
                · (intro w hSw; (try dsimp only at hSw); go_split_ands; go_simp; try with_reducible rfl)
                try simp only [Act.put, List.setIfInBounds_toArray, List.set_cons_zero, List.set_cons_succ]
                refine wpAnyH_take (i := 6) (oi := ⟨some 200, _, _, _, _, _⟩) (v := ?_) rfl (by kernel_rfl) (by kernel_rfl) (by kernel_rfl) (fun _ _ _ h => h) (Or.inl ⟨by rfl, ?_⟩) (by assumption) ?_
                rotate_left
                · (intro w hSw; (try dsimp only at hSw); go_split_ands; go_simp; try with_reducible rfl)
                try simp only [Act.put, List.setIfInBounds_toArray, List.set_cons_zero, List.set_cons_succ]
                refine wpAnyH_take (i := 7) (oi := ⟨some 201, _, _, _, _, _⟩) (v := ?_) rfl (by kernel_rfl) (by kernel_rfl) (by kernel_rfl) (fun _ _ _ h => h) (Or.inl ⟨by rfl, ?_⟩) (by assumption) ?_
                rotate_left
                · (intro w hSw; (try dsimp only at hSw); go_split_ands; go_simp; try with_reducible rfl)
                try simp only [Act.put, List.setIfInBounds_toArray, List.set_cons_zero, List.set_cons_succ]
                refine wpAnyH_take (i := 8) (oi := ⟨some 202, _, _, _, _, _⟩) (v := ?_) rfl (by kernel_rfl) (by kernel_rfl) (by kernel_rfl) (fun _ _ _ h => h) (Or.inl ⟨by rfl, ?_⟩) (by assumption) ?_
                rotate_left
                · (intro w hSw; (try dsimp only at hSw); go_split_ands; go_simp; try with_reducible rfl)
                try simp only [Act.put, List.setIfInBounds_toArray, List.set_cons_zero, List.set_cons_succ]
                refine wpAnyH_take (i := 9) (oi := ⟨some 203, _, _, _, _, _⟩) (v := ?_) rfl (by kernel_rfl) (by kernel_rfl) (by kernel_rfl) (fun _ _ _ h => h) (Or.inl ⟨by rfl, ?_⟩) (by assumption) ?_
                rotate_left
                · (intro w hSw; (try dsimp only at hSw); go_split_ands; go_simp; try with_reducible rfl)
                try simp only [Act.put, List.setIfInBounds_toArray, List.set_cons_zero, List.set_cons_succ]
                refine wpAnyH_take (i := 10) (oi := ⟨some 204, _, _, _, _, _⟩) (v := ?_) rfl (by kernel_rfl) (by kernel_rfl) (by kernel_rfl) (fun _ _ _ h => h) (Or.inl ⟨by rfl, ?_⟩) (by assumption) ?_
                rotate_left
                · (intro w hSw; (try dsimp only at hSw); go_split_ands; go_simp; try with_reducible rfl)
                try simp only [Act.put, List.setIfInBounds_toArray, List.set_cons_zero, List.set_cons_succ]
                refine wpAnyH_take (i := 11) (oi := ⟨some 205, _, _, _, _, _⟩) (v := ?_) rfl (by kernel_rfl) (by kernel_rfl) (by kernel_rfl) (fun _ _ _ h => h) (Or.inl ⟨by rfl, ?_⟩) (by assumption) ?_
                rotate_left
                · (intro w hSw; (try dsimp only at hSw); go_split_ands; go_simp; try with_reducible rfl)
                try simp only [Act.put, List.setIfInBounds_toArray, List.set_cons_zero, List.set_cons_succ]
                refine wpAnyH_take (i := 12) (oi := ⟨some 206, _, _, _, _, _⟩) (v := ?_) rfl (by kernel_rfl) (by kernel_rfl) (by kernel_rfl) (fun _ _ _ h => h) (Or.inl ⟨by rfl, ?_⟩) (by assumption) ?_
                rotate_left
                · (intro w hSw; (try dsimp only at hSw); go_split_ands; go_simp; try with_reducible rfl)
                try simp only [Act.put, List.setIfInBounds_toArray, List.set_cons_zero, List.set_cons_succ]
                refine wpAnyH_take (i := 13) (oi := ⟨some 207, _, _, _, _, _⟩) (v := ?_) rfl (by kernel_rfl) (by kernel_rfl) (by kernel_rfl) (fun _ _ _ h => h) (Or.inl ⟨by rfl, ?_⟩) (by assumption) ?_
                rotate_left
                · (intro w hSw; (try dsimp only at hSw); go_split_ands; go_simp; try with_reducible rfl)
                try simp only [Act.put, List.setIfInBounds_toArray, List.set_cons_zero, List.set_cons_succ]
                refine wpAnyH_take (i := 14) (oi := ⟨some 208, _, _, _, _, _⟩) (v := ?_) rfl (by kernel_rfl) (by kernel_rfl) (by kernel_rfl) (fun _ _ _ h => h) (Or.inl ⟨by rfl, ?_⟩) (by assumption) ?_
                rotate_left
                · (intro w hSw; (try dsimp only at hSw); go_split_ands; go_simp; try with_reducible rfl)
                try simp only [Act.put, List.setIfInBounds_toArray, List.set_cons_zero, List.set_cons_succ]
                refine wpAnyH_take (i := 15) (oi := ⟨some 209, _, _, _, _, _⟩) (v := ?_) rfl (by kernel_rfl) (by kernel_rfl) (by kernel_rfl) (fun _ _ _ h => h) (Or.inl ⟨by rfl, ?_⟩) (by assumption) ?_
                rotate_left
                · (intro w hSw; (try dsimp only at hSw); go_split_ands; go_simp; try with_reducible rfl)
                try simp only [Act.put, List.setIfInBounds_toArray, List.set_cons_zero, List.set_cons_succ]
                refine wpAnyH_take (i := 16) (oi := ⟨some 210, _, _, _, _, _⟩) (v := ?_) rfl (by kernel_rfl) (by kernel_rfl) (by kernel_rfl) (fun _ _ _ h => h) (Or.inl ⟨by rfl, ?_⟩) (by assumption) ?_
                rotate_left
                · (intro w hSw; (try dsimp only at hSw); go_split_ands; go_simp; try with_reducible rfl)
                try simp only [Act.put, List.setIfInBounds_toArray, List.set_cons_zero, List.set_cons_succ]
                refine wpAnyH_take (i := 17) (oi := ⟨some 211, _, _, _, _, _⟩) (v := ?_) rfl (by kernel_rfl) (by kernel_rfl) (by kernel_rfl) (fun _ _ _ h => h) (Or.inl ⟨by rfl, ?_⟩) (by assumption) ?_
                rotate_left
                · (intro w hSw; (try dsimp only at hSw); go_split_ands; go_simp; try with_reducible rfl)
                try simp only [Act.put, List.setIfInBounds_toArray, List.set_cons_zero, List.set_cons_succ]
                refine wpAnyH_take (i := 18) (oi := ⟨some 212, _, _, _, _, _⟩) (v := ?_) rfl (by kernel_rfl) (by kernel_rfl) (by kernel_rfl) (fun _ _ _ h => h) (Or.inl ⟨by rfl, ?_⟩) (by assumption) ?_
                rotate_left
                · (intro w hSw; (try dsimp only at hSw); go_split_ands; go_simp; try with_reducible rfl)
                try simp only [Act.put, List.setIfInBounds_toArray, List.set_cons_zero, List.set_cons_succ]
                refine wpAnyH_ready (rs := [19]) (by kernel_rfl) (by simp) ?_
                refine AllReadyH.cons rfl (fun K hK => ?_) AllReadyH.nil
                go_simp
                ((with_reducible refine (HRS3.out).mono ?_); rintro e16 w16 hp16; obtain ⟨A16, n16, c16, rfl, ho16, hb16⟩ := hp16; obtain rfl : k2 = n16 := HK2X.out.symm.trans (own_len1 ho16).symm; have HB16 := Lib.hid hb16; have HEQ3 := Lib.hid (eqInts_yes As A16 k2 ca c16 X w16 (HRS.out _ (G.bl_trans HBD.out hb16)) (G.RdS.of_own ho16) hkl); clear ho16 hb16)
                go_wp2_with fail
                refine hK.out _ _ ?_ (fun hHeld => ?_)
                · exact HSV.out _ HB16.out
                clear hK K
                try simp only [Act.put, List.setIfInBounds_toArray, List.set_cons_zero, List.set_cons_succ]
                refine wpAnyH_ready (rs := [20]) (by kernel_rfl) (by simp) ?_
                refine AllReadyH.cons rfl (fun K hK => ?_) AllReadyH.nil
                go_simp
                ((with_reducible refine (HEQ3.out).mono ?_); rintro e17 w17 hp17; obtain ⟨rfl, hb17⟩ := hp17; have HB17 := Lib.hid hb17; clear hb17)
                go_wp2_with fail
                refine hK.out _ _ ?_ (fun hHeld => ?_)
                · exact HSV.out _ (G.bl_trans HB16.out HB17.out)
                clear hK K
                try simp only [Act.put, List.setIfInBounds_toArray, List.set_cons_zero, List.set_cons_succ]
                refine wpAnyH_take (i := 21) (oi := ⟨some 215, _, _, _, _, _⟩) (v := ?_) rfl (by kernel_rfl) (by kernel_rfl) (by kernel_rfl) (fun _ _ _ h => h) (Or.inl ⟨by rfl, ?_⟩) (by assumption) ?_
                rotate_left
                · (intro w hSw; (try dsimp only at hSw); go_split_ands; go_simp; try with_reducible rfl)
                try simp only [Act.put, List.setIfInBounds_toArray, List.set_cons_zero, List.set_cons_succ]
                refine wpAnyH_take (i := 22) (oi := ⟨some 216, _, _, _, _, _⟩) (v := ?_) rfl (by kernel_rfl) (by kernel_rfl) (by kernel_rfl) (fun _ _ _ h => h) (Or.inl ⟨by rfl, ?_⟩) (by assumption) ?_
                rotate_left
                · (intro w hSw; (try dsimp only at hSw); go_split_ands; go_simp; try with_reducible rfl)
                try simp only [Act.put, List.setIfInBounds_toArray, List.set_cons_zero, List.set_cons_succ]
                refine wpAnyH_done (by kernel_rfl) ?_ _
                go_wp2_with fail
                go_roundw
                case rel => exact ⟨z + 1, by omega, by go_num, G.bl_trans HBZ8.out (G.bl_trans HBD.out (G.bl_trans HB16.out HB17.out))⟩
                case measure => (simp [intOf]; omega)
            · as_aux_lemma =>
                have hrem : (z : Int).tmod 4 = ((z % 4 : Nat) : Int) := by rw [Int.tmod_eq_emod_of_nonneg (by omega)]; omega
                have hx0 := HNONE.out hz3
                have hl3 := HLEFT.out hz2
                obtain rfl : n13 = m := by rw [HN13.out]; exact hl3
                obtain rfl : n13 = mt := by rw [HXM.out, hx0, HN13.out]; rfl
                obtain ⟨zr, hzr⟩ : ∃ q, q = z % 4 := ⟨_, rfl⟩
                rw [← hzr] at hrem hz2 hz3
                have hr2 : ((zr : Int) == 2) = false := by rw [beq_eq_false_iff_ne]; omega
                have hr3 : ((zr : Int) == 3) = false := by rw [beq_eq_false_iff_ne]; omega
                clear hzr hx0 hl3 hnmI hnm
                go_wp2_with fail
                refine (HEQI.out).mono ?_
                rintro e14 w14 ⟨rfl, hb14⟩
                have HB14 := Lib.hid (G.bl_trans HB13.out hb14)
                have HREST2 := Lib.hid (show Calls Tryz.prog 11 #[.slice As k2 ca, .slice A7 q c7, .bool false] w14 (RestPost [] w14) from by
                  have h9 := rest_any As A7 k2 ca q c7 X Dl false w14 HK2X.out HQD.out (HRS.out _ HB14.out) ((HOW8.out.below HBZ8.out).below HB14.out) hkl hqn
                  rw [HGONE.out] at h9
                  exact h9)
                have d2 := (HB14.out.cell (p := ⟨g6, 2, none⟩) HYz.out.lt).trans D2.out
                have htr := (HB14.out.cell (p := ⟨bt, ot + z, none⟩) lt).trans HTR.out
                have lt14 := World.block_lt_of_cell? _ _ htr
                have ld14 := World.block_lt_of_cell? _ _ d2
                clear hb14 c2 hcr
                go_wp2_with fail
                refine (HREST2.out).mono ?_
                rintro e15 w15 ⟨A15, n15, c15, rfl, ho15, hb15⟩
                obtain rfl : n15 = 0 := own_len1 ho15
                have HB15 := Lib.hid (G.bl_trans HB14.out hb15)
                clear ho15 hb15
                go_upto_region 38 with (fail)
                refine wp_region_held_drew (S := fun V => True) (by kernel_rfl) ?_ (fun hHeld => ?_)
                · exact trivial
                refine wpAnyH_take (i := 0) (oi := ⟨some 194, _, _, _, _, _⟩) (v := ?_) rfl (by kernel_rfl) (by kernel_rfl) (by kernel_rfl) (fun _ _ _ h => h) (Or.inl ⟨by rfl, ?_⟩) (by assumption) ?_
                rotate_left
                · (intro w hSw; (try dsimp only at hSw); go_split_ands; go_simp; try with_reducible rfl)
                try simp only [Act.put, List.setIfInBounds_toArray, List.set_cons_zero, List.set_cons_succ]
                refine wpAnyH_take (i := 1) (oi := ⟨some 195, _, _, _, _, _⟩) (v := ?_) rfl (by kernel_rfl) (by kernel_rfl) (by kernel_rfl) (fun _ _ _ h => h) (Or.inl ⟨by rfl, ?_⟩) (by assumption) ?_
                rotate_left
                · (intro w hSw; (try dsimp only at hSw); go_split_ands; go_simp; try with_reducible rfl)
                try simp only [Act.put, List.setIfInBounds_toArray, List.set_cons_zero, List.set_cons_succ]
                refine wpAnyH_take (i := 2) (oi := ⟨some 196, _, _, _, _, _⟩) (v := ?_) rfl (by kernel_rfl) (by kernel_rfl) (by kernel_rfl) (fun _ _ _ h => h) (Or.inl ⟨by rfl, ?_⟩) (by assumption) ?_
                rotate_left
                · (intro w hSw; (try dsimp only at hSw); go_split_ands; go_simp; try with_reducible rfl)
                try simp only [Act.put, List.setIfInBounds_toArray, List.set_cons_zero, List.set_cons_succ]
                refine wpAnyH_take (i := 3) (oi := ⟨some 197, _, _, _, _, _⟩) (v := ?_) rfl (by kernel_rfl) (by kernel_rfl) (by kernel_rfl) (fun _ _ _ h => h) (Or.inl ⟨by rfl, ?_⟩) (by assumption) ?_
                rotate_left
                · (intro w hSw; (try dsimp only at hSw); go_split_ands; go_simp; try with_reducible rfl)
                try simp only [Act.put, List.setIfInBounds_toArray, List.set_cons_zero, List.set_cons_succ]
                refine wpAnyH_take (i := 4) (oi := ⟨some 198, _, _, _, _, _⟩) (v := undef) rfl (by kernel_rfl) (by kernel_rfl) (by kernel_rfl) (fun _ _ _ h => h) (Or.inr ⟨by rfl, rfl⟩) (by assumption) ?_
                try simp only [Act.put, List.setIfInBounds_toArray, List.set_cons_zero, List.set_cons_succ]
                refine wpAnyH_take (i := 5) (oi := ⟨some 199, _, _, _, _, _⟩) (v := undef) rfl (by kernel_rfl) (by kernel_rfl) (by kernel_rfl) (fun _ _ _ h => h) (Or.inr ⟨by rfl, rfl⟩) (by assumption) ?_
                try simp only [Act.put, List.setIfInBounds_toArray, List.set_cons_zero, List.set_cons_succ]
                refine wpAnyH_take (i := 6) (oi := ⟨some 200, _, _, _, _, _⟩) (v := undef) rfl (by kernel_rfl) (by kernel_rfl) (by kernel_rfl) (fun _ _ _ h => h) (Or.inr ⟨by rfl, rfl⟩) (by assumption) ?_
                try simp only [Act.put, List.setIfInBounds_toArray, List.set_cons_zero, List.set_cons_succ]
                refine wpAnyH_take (i := 7) (oi := ⟨some 201, _, _, _, _, _⟩) (v := undef) rfl (by kernel_rfl) (by kernel_rfl) (by kernel_rfl) (fun _ _ _ h => h) (Or.inr ⟨by rfl, rfl⟩) (by assumption) ?_
                try simp only [Act.put, List.setIfInBounds_toArray, List.set_cons_zero, List.set_cons_succ]
                refine wpAnyH_take (i := 8) (oi := ⟨some 202, _, _, _, _, _⟩) (v := undef) rfl (by kernel_rfl) (by kernel_rfl) (by kernel_rfl) (fun _ _ _ h => h) (Or.inr ⟨by rfl, rfl⟩) (by assumption) ?_
                try simp only [Act.put, List.setIfInBounds_toArray, List.set_cons_zero, List.set_cons_succ]
                refine wpAnyH_take (i := 9) (oi := ⟨some 203, _, _, _, _, _⟩) (v := undef) rfl (by kernel_rfl) (by kernel_rfl) (by kernel_rfl) (fun _ _ _ h => h) (Or.inr ⟨by rfl, rfl⟩) (by assumption) ?_
                try simp only [Act.put, List.setIfInBounds_toArray, List.set_cons_zero, List.set_cons_succ]
                refine wpAnyH_take (i := 10) (oi := ⟨some 204, _, _, _, _, _⟩) (v := undef) rfl (by kernel_rfl) (by kernel_rfl) (by kernel_rfl) (fun _ _ _ h => h) (Or.inr ⟨by rfl, rfl⟩) (by assumption) ?_
                try simp only [Act.put, List.setIfInBounds_toArray, List.set_cons_zero, List.set_cons_succ]
                refine wpAnyH_take (i := 11) (oi := ⟨some 205, _, _, _, _, _⟩) (v := undef) rfl (by kernel_rfl) (by kernel_rfl) (by kernel_rfl) (fun _ _ _ h => h) (Or.inr ⟨by rfl, rfl⟩) (by assumption) ?_
                try simp only [Act.put, List.setIfInBounds_toArray, List.set_cons_zero, List.set_cons_succ]
                refine wpAnyH_take (i := 12) (oi := ⟨some 206, _, _, _, _, _⟩) (v := undef) rfl (by kernel_rfl) (by kernel_rfl) (by kernel_rfl) (fun _ _ _ h => h) (Or.inr ⟨by rfl, rfl⟩) (by assumption) ?_
                try simp only [Act.put, List.setIfInBounds_toArray, List.set_cons_zero, List.set_cons_succ]
                refine wpAnyH_take (i := 13) (oi := ⟨some 207, _, _, _, _, _⟩) (v := undef) rfl (by kernel_rfl) (by kernel_rfl) (by kernel_rfl) (fun _ _ _ h => h) (Or.inr ⟨by rfl, rfl⟩) (by assumption) ?_
                try simp only [Act.put, List.setIfInBounds_toArray, List.set_cons_zero, List.set_cons_succ]
                refine wpAnyH_take (i := 14) (oi := ⟨some 208, _, _, _, _, _⟩) (v := undef) rfl (by kernel_rfl) (by kernel_rfl) (by kernel_rfl) (fun _ _ _ h => h) (Or.inr ⟨by rfl, rfl⟩) (by assumption) ?_
                try simp only [Act.put, List.setIfInBounds_toArray, List.set_cons_zero, List.set_cons_succ]
                refine wpAnyH_take (i := 15) (oi := ⟨some 209, _, _, _, _, _⟩) (v := undef) rfl (by kernel_rfl) (by kernel_rfl) (by kernel_rfl) (fun _ _ _ h => h) (Or.inr ⟨by rfl, rfl⟩) (by assumption) ?_
                try simp only [Act.put, List.setIfInBounds_toArray, List.set_cons_zero, List.set_cons_succ]
                refine wpAnyH_take (i := 16) (oi := ⟨some 210, _, _, _, _, _⟩) (v := undef) rfl (by kernel_rfl) (by kernel_rfl) (by kernel_rfl) (fun _ _ _ h => h) (Or.inr ⟨by rfl, rfl⟩) (by assumption) ?_
                try simp only [Act.put, List.setIfInBounds_toArray, List.set_cons_zero, List.set_cons_succ]
                refine wpAnyH_take (i := 17) (oi := ⟨some 211, _, _, _, _, _⟩) (v := undef) rfl (by kernel_rfl) (by kernel_rfl) (by kernel_rfl) (fun _ _ _ h => h) (Or.inr ⟨by rfl, rfl⟩) (by assumption) ?_
                try simp only [Act.put, List.setIfInBounds_toArray, List.set_cons_zero, List.set_cons_succ]
                refine wpAnyH_take (i := 18) (oi := ⟨some 212, _, _, _, _, _⟩) (v := undef) rfl (by kernel_rfl) (by kernel_rfl) (by kernel_rfl) (fun _ _ _ h => h) (Or.inr ⟨by rfl, rfl⟩) (by assumption) ?_
                try simp only [Act.put, List.setIfInBounds_toArray, List.set_cons_zero, List.set_cons_succ]
                refine wpAnyH_take (i := 19) (oi := ⟨some 213, _, _, _, _, _⟩) (v := undef) rfl (by kernel_rfl) (by kernel_rfl) (by kernel_rfl) (fun _ _ _ h => h) (Or.inr ⟨by rfl, rfl⟩) (by assumption) ?_
                try simp only [Act.put, List.setIfInBounds_toArray, List.set_cons_zero, List.set_cons_succ]
                refine wpAnyH_take (i := 20) (oi := ⟨some 214, _, _, _, _, _⟩) (v := undef) rfl (by kernel_rfl) (by kernel_rfl) (by kernel_rfl) (fun _ _ _ h => h) (Or.inr ⟨by rfl, rfl⟩) (by assumption) ?_
                try simp only [Act.put, List.setIfInBounds_toArray, List.set_cons_zero, List.set_cons_succ]
                refine wpAnyH_take (i := 21) (oi := ⟨some 215, _, _, _, _, _⟩) (v := undef) rfl (by kernel_rfl) (by kernel_rfl) (by kernel_rfl) (fun _ _ _ h => h) (Or.inr ⟨by rfl, rfl⟩) (by assumption) ?_
                try simp only [Act.put, List.setIfInBounds_toArray, List.set_cons_zero, List.set_cons_succ]
                refine wpAnyH_take (i := 22) (oi := ⟨some 216, _, _, _, _, _⟩) (v := ?_) rfl (by kernel_rfl) (by kernel_rfl) (by kernel_rfl) (fun _ _ _ h => h) (Or.inl ⟨by rfl, ?_⟩) (by assumption) ?_
                rotate_left
                · (intro w hSw; (try dsimp only at hSw); go_split_ands; go_simp; try with_reducible rfl)
                try simp only [Act.put, List.setIfInBounds_toArray, List.set_cons_zero, List.set_cons_succ]
                refine wpAnyH_done (by kernel_rfl) ?_ _
                go_wp2_with fail
                go_roundw
                case rel => exact ⟨z + 1, by omega, by go_num, G.bl_trans HBZ8.out (HB15.out.drew)⟩
                case measure => (simp [intOf]; omega)
        · have hzI : ¬ (z : Int) < zn := by omega
          obtain rfl : z = zn := by omega
          obtain ⟨pn, hpn⟩ : ∃ q, q = s.players.length := ⟨_, rfl⟩
          have HPN := Lib.hid hpn
          have hpn4 : pn ≤ 4 := by rw [hpn]; exact HM.out.n4
          have hpnI : (pn : Int) ≤ 4 := by omega
          clear hpn
          go_upto_region 41 with (fail)
          clear c2 lx
          go_loopw [15] (fun i wi => ∃ p : Nat, p ≤ pn ∧ i = .int .i64 (p : Int) ∧ Below w7.heap.size w7 wi) (fun i _ => pn - (intOf i).toNat)
          case atStart => exact ⟨0, Nat.zero_le _, rfl, HB7.out⟩
          case round =>
            obtain ⟨p, hp, rfl, hbp⟩ := hrel
            have HBP := Lib.hid hbp
            have HXp := Lib.hid (HKg.out.below hbp HKg.out.lt)
            have HYp := Lib.hid (HKg6.out.below hbp HKg6.out.lt)
            have hp0 : (0 : Int) ≤ p := by omega
            have c0 : wr.cell? ⟨g, 0, none⟩ = some (.slice x.pa pn x.pc) := by have h9 := HXp.out; rw [HCX.out] at h9; rw [HPN.out]; exact h9.cell 0
            have lx := HXp.out.lt
            clear hbp
            by_cases hlt : p < pn
            · have hpI : (p : Int) < pn := by omega
              have hps : p < s.players.length := by rw [← HPN.out]; exact hlt
              have hpt : p < t6.players.length := by rw [HTP.out]; exact hps
              obtain ⟨ba, oa, hpa, hba, hruna⟩ := pl_whole (HR.out.below HBP.out).p hps
              obtain ⟨bb, ob, hpb, hbb, hrunb⟩ := pl_whole ((HO6.out.below HBP.out).rd).p hpt
              rw [hpa] at c0
              have hpd := player_due HM.out (p : Int) (by omega)
              rw [← HT.out] at hpd
              have hps2 : plAt s (p : Int) = s.players.getD p zeroPl := by unfold plAt; rw [Int.toNat_natCast]
              have hpt2 : plAt t6 (p : Int) = t6.players.getD p zeroPl := by unfold plAt; rw [Int.toNat_natCast]
              rw [hps2, hpt2] at hpd
              obtain ⟨pa, hpae⟩ : ∃ q, q = s.players.getD p zeroPl := ⟨_, rfl⟩
              obtain ⟨pb, hpbe⟩ : ∃ q, q = t6.players.getD p zeroPl := ⟨_, rfl⟩
              rw [← hpae] at hruna hpd
              rw [← hpbe] at hrunb hpd
              obtain ⟨q1, q2, q3, q4⟩ := hpd
              obtain ⟨ca, hca⟩ : ∃ q, q = pa.cells.toArray := ⟨_, rfl⟩
              obtain ⟨cb, hcb⟩ : ∃ q, q = pb.cells.toArray := ⟨_, rfl⟩
              rw [← hca] at hruna
              rw [← hcb] at hrunb
              have HRA := Lib.hid hruna
              have HSA := Lib.hid (show ca.size = 3 by rw [hca]; rfl)
              have HAA := Lib.hid (show ca.all (·.oneCell') = true by rw [hca]; simp [Pl.cells, Value.oneCell'])
              have HSB := Lib.hid (show cb.size = 3 by rw [hcb]; rfl)
              have HAB := Lib.hid (show cb.all (·.oneCell') = true by rw [hcb]; simp [Pl.cells, Value.oneCell'])
              have HA0 := Lib.hid (show ca[0]? = some (.int .i32 pa.life) by rw [hca]; rfl)
              have HA1 := Lib.hid (show ca[1]? = some (.int .i32 pa.energy) by rw [hca]; rfl)
              have HA2 := Lib.hid (show ca[2]? = some (.bool pa.out) by rw [hca]; rfl)
              have HB0 := Lib.hid (show cb[0]? = some (.int .i32 pa.life) by rw [hcb, ← q1]; rfl)
              have HB1 := Lib.hid (show cb[1]? = some (.int .i32 pa.energy) by rw [hcb, ← q2]; rfl)
              have HB2 := Lib.hid (show cb[2]? = some (.bool pb.out) by rw [hcb]; rfl)
              obtain ⟨li, hli⟩ : ∃ q, q = pa.life := ⟨_, rfl⟩
              obtain ⟨en, hen⟩ : ∃ q, q = pa.energy := ⟨_, rfl⟩
              obtain ⟨o1, ho1⟩ : ∃ q, q = pa.out := ⟨_, rfl⟩
              obtain ⟨o2, ho2⟩ : ∃ q, q = pb.out := ⟨_, rfl⟩
              rw [← hli] at HA0 HB0 q4
              rw [← hen] at HA1 HB1
              rw [← ho1] at HA2 q3 q4
              rw [← ho2] at HB2 q3 q4
              have HQ3 := Lib.hid q3
              have HQ4 := Lib.hid q4
              have HPB := Lib.hid hpb
              have HRBx := Lib.hid (show ∀ V, Below wr.heap.size wr V → (loadVar 44 ⟨bb, ob + p * 3, none⟩).run Tryz.prog V = .ok (.agg cb) V from fun V hV => by
                obtain ⟨b', o', e', _, hr⟩ := pl_whole (((HO6.out.below HBP.out).rd.below hV)).p hpt
                rw [hpb] at e'
                cases e'
                rw [hcb, hpbe]
                exact hr)
              have HYC := Lib.hid (show ∀ V, Below wr.heap.size wr V → V.cell? ⟨g6, 0, none⟩ = some (.slice (some ⟨bb, ob, none⟩) pn x6.pc) from fun V hV => by
                have h9 := HYp.out.below hV HYp.out.lt
                rw [HCcy.out] at h9
                rw [HPN.out, ← HTP.out, ← hpb]
                exact h9.cell 0)
              clear hpa hpb hba hruna hrunb hps2 hpt2 hpae hpbe q1 q2 q3 q4 hca hcb hli hen ho1 ho2 hps hpt
              go_upto_region 43 with (fail)
              go_upto_region 44 with (first | (refine wpList_load_run (by rfl) 44 _ rfl ba (oa + p * 3) rfl ca HRA.out ?_) | (refine wpList_store_row rfl 44 _ _ rfl _ ca rfl rfl 44 _ (heap_alloc_new _ _) (by rw [HSA.out]; exact sizePl25) (by rw [HSA.out]; rfl) HAA.out ?_))
              generalize hwA : World.setRow _ _ _ = wA
              have hqA : Below wr.heap.size wr wA := by rw [← hwA]; exact below_setRow (G.bl_alloc (Below.refl _ _) _) (Nat.le_refl _) _
              have hrA : G.Blk wA wr.heap.size 44 ca := by rw [← hwA]; exact setRow_heap _ _ _ _ _ _ (heap_alloc_new _ _)
              have HQA := Lib.hid hqA
              generalize hgA : wr.heap.size = gA at hrA ⊢
              have HKA := Lib.hid hrA
              have HRB := Lib.hid (HRBx.out wA HQA.out)
              have d0 := HYC.out wA HQA.out
              have ly := Nat.lt_of_lt_of_le HYp.out.lt HQA.out.size
              have lb := Nat.lt_of_lt_of_le hbb HQA.out.size
              clear hwA hqA hrA hgA c0 lx
              go_upto_region 45 with (first | (refine wpList_load_run (by rfl) 44 _ rfl bb (ob + p * 3) rfl cb HRB.out ?_) | (refine wpList_store_row rfl 44 _ _ rfl _ cb rfl rfl 44 _ (heap_alloc_new _ _) (by rw [HSB.out]; exact sizePl25) (by rw [HSB.out]; rfl) HAB.out ?_))
              generalize hwB : World.setRow _ _ _ = wB
              have hqB : Below wA.heap.size wA wB := by rw [← hwB]; exact below_setRow (G.bl_alloc (Below.refl _ _) _) (Nat.le_refl _) _
              have hrB : G.Blk wB wA.heap.size 44 cb := by rw [← hwB]; exact setRow_heap _ _ _ _ _ _ (heap_alloc_new _ _)
              have HQB := Lib.hid (G.bl_trans HBP.out (G.bl_trans HQA.out hqB))
              have hkA := HKA.out.below hqB HKA.out.lt
              generalize hgB : wA.heap.size = gB at hrB ⊢
              have a0 := (hkA.cell 0).trans HA0.out
              have a1 := (hkA.cell 1).trans HA1.out
              have a2 := (hkA.cell 2).trans HA2.out
              have b0 := (hrB.cell 0).trans HB0.out
              have b1 := (hrB.cell 1).trans HB1.out
              have b2 := (hrB.cell 2).trans HB2.out
              have l1 := hkA.lt
              have l2 := hrB.lt
              clear hwB hqB hrB hkA hgB d0 ly lb
              cases o1 with
              | true =>
                obtain rfl : o2 = true := HQ3.out rfl
                go_wp2_with fail
                go_roundw
                case rel => exact ⟨p + 1, by omega, by go_num, HQB.out⟩
                case measure => (simp [intOf]; omega)
              | false =>
                cases o2 with
                | false =>
                  go_wp2_with fail
                  go_roundw
                  case rel => exact ⟨p + 1, by omega, by go_num, HQB.out⟩
                  case measure => (simp [intOf]; omega)
                | true =>
                  have hll : ¬ 0 < li := by
                    rcases HQ4.out rfl with h | h
                    · cases h
                    · omega
                  go_wp2_with fail
                  go_roundw
                  case rel => exact ⟨p + 1, by omega, by go_num, HQB.out⟩
                  case measure => (simp [intOf]; omega)
            · have hpI : ¬ (p : Int) < pn := by omega
              obtain rfl : p = pn := by omega
              go_wp2_with fail
              go_ret
              exact ⟨rfl, G.bl_trans HB.out HBP.out⟩
end Go.Proofs.YtmhklnjmeoeanaaGreatDoor.D

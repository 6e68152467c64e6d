/- The contract of tokens.Cut. -/
import Derived.Test.YtlaikgaepaiigaaGreatDoorKWhile
import Derived.Test.YtlaikgaepaiigaaGreatDoorBag
import Derived.Deep.LoopGhost
import Derived.WalkMore
import Derived.Deep.CutRange
import Derived.Deep.CutBlock
import Derived.Deep.RegionHeld3
namespace Go.Proofs.YtlaikgaepaiigaaGreatDoor.K
open Go Go.RowKit
set_option linter.unusedVariables false
set_option linter.unusedSimpArgs false
def flatT (l : List Tk) : List Value := l.flatMap Tk.cells
theorem flatT_snoc (l : List Tk) (x : Tk) : flatT (l ++ [x]) = flatT l ++ x.cells := by simp [flatT]
theorem tk_one (x : Tk) : ∀ u ∈ x.cells, u.oneCell' = true := by intro u hu; simp [Tk.cells] at hu; rcases hu with rfl | rfl | rfl | rfl <;> rfl
theorem infoTk : (Tryz.prog.info? 24).map (fun i => (i.zero, i.size, i.bytes)) = some (some (.agg #[.int .i8 0, .string ⟨#[]⟩, .int .i64 0, .int .i64 0]), 4, 40) := by kernel_rfl
/-- P8.1 -/
def resOf (s : ByteArray) : List Tk × Int × Int :=
  if 65536 < s.size then ([], 20, 65536) else match cutOf s with
    | .bad q => ([], 21, q)
    | .ok l => (l, 0, 0)
theorem resOf_bad {s : ByteArray} {q : Nat} (hn : s.size ≤ 65536) (h : cutOf s = .bad q) : resOf s = ([], 21, (q : Int)) := by
  unfold resOf
  rw [if_neg (by omega), h]
theorem resOf_ok {s : ByteArray} {l : List Tk} (hn : s.size ≤ 65536) (h : cutOf s = .ok l) : resOf s = (l, 0, 0) := by
  unfold resOf
  rw [if_neg (by omega), h]
theorem pre_cons (t : Tk) (a : List Tk) (r : CutR) : (r.cons t).pre a = r.pre (a ++ [t]) := by cases r <;> simp [CutR.cons, CutR.pre]
theorem pre_nil (r : CutR) : r.pre [] = r := by cases r <;> simp [CutR.pre]
theorem cf_end {s : ByteArray} {f q : Nat} (h : s.size ≤ q) : cutF s f q = .ok [endTk s] := by
  cases f with
  | zero => rfl
  | succ f => rw [cutF, if_pos h]
theorem cf_blank {s : ByteArray} {f q : Nat} (h : ¬ s.size ≤ q) (hb : blankI (bt s q) = true) : cutF s (f + 1) q = cutF s f (q + 1) := by rw [cutF, if_neg h, if_pos hb]
theorem cf_rem {s : ByteArray} {f q : Nat} (h : ¬ s.size ≤ q) (hb : blankI (bt s q) = false) (hr : remB s q = true) : cutF s (f + 1) q = cutF s f (whileOf notNl s q) := by rw [cutF, if_neg h, if_neg (by rw [hb]; decide), if_pos hr]
theorem cf_bad {s : ByteArray} {f q b : Nat} (h : ¬ s.size ≤ q) (hb : blankI (bt s q) = false) (hr : remB s q = false) (ht : tokAt s q = .bad b) : cutF s (f + 1) q = .bad b := by rw [cutF, if_neg h, if_neg (by rw [hb]; decide), if_neg (by rw [hr]; decide), ht]
theorem cf_ok {s : ByteArray} {f q q' : Nat} {t : Tk} (h : ¬ s.size ≤ q) (hb : blankI (bt s q) = false) (hr : remB s q = false) (ht : tokAt s q = .ok t q') : cutF s (f + 1) q = (cutF s f q').cons t := by rw [cutF, if_neg h, if_neg (by rw [hb]; decide), if_neg (by rw [hr]; decide), ht]
theorem not_rem {s : ByteArray} {q : Nat} (h : bt s q ≠ 47) : remB s q = false := by
  unfold remB
  rw [show (bt s q == 47) = false from by simpa using h]
  rfl
theorem class47 {y : Int} (h : classI y ≠ 0) : y ≠ 47 := fun e => h (by rw [e]; decide)
theorem textGo_gt {s : ByteArray} {p : Nat} : ∀ (f q : Nat) (out r : List UInt8) (q' : Nat), textGo s p f q out = (some r, q') → q < q' ∧ q' ≤ s.size
  | 0, q, out, r, q', h => by simp [textGo] at h
  | f + 1, q, out, r, q', h => by
    rw [textGo] at h
    split at h
    · simp at h
    · rename_i h0
      split at h
      · split at h
        · simp at h
        · simp only [Prod.mk.injEq, Option.some.injEq] at h; omega
      · split at h
        · split at h
          · have := textGo_gt f (q + 2) _ r q' h; omega
          · simp at h
        · split at h
          · simp at h
          · have := textGo_gt f (q + 1) _ r q' h; omega
theorem digTo_bd {s : ByteArray} {q : Nat} (h : q < s.size) (hd : digitI (bt s q) = true) : q < digTo s q ∧ digTo s q ≤ s.size ∧ ∀ i, q ≤ i → i < digTo s q → digitI (bt s i) = true := by
  unfold digTo
  split
  · exact ⟨by omega, by omega, fun i h1 h2 => by rw [show i = q by omega]; exact hd⟩
  · rw [while_step h hd]
    have hb := while_bd digitI s (q + 1)
    refine ⟨by omega, hb.2 (by omega), fun i h1 h2 => ?_⟩
    by_cases e : i = q
    · rw [e]; exact hd
    · exact (while_all _ (q + 1) i (by omega) h2).2
def CutPost (s : ByteArray) (w : World) (e : Ending) (w' : World) : Prop :=
  ∃ v, e = .returned (.tuple #[v, .int .i64 (resOf s).2.1, .int .i64 (resOf s).2.2]) ∧ w'.ownsRow w.heap.size 24 4 v (resOf s).1.length (flatT (resOf s).1) ∧ Below w.heap.size w w'
theorem cutPost_mk {s : ByteArray} {w w' : World} {v x y : Value} {r : List Tk × Int × Int} (h : resOf s = r) (hx : x = .int .i64 r.2.1) (hy : y = .int .i64 r.2.2) (ho : w'.ownsRow w.heap.size 24 4 v r.1.length (flatT r.1)) (hb : Below w.heap.size w w') : CutPost s w (.returned (.tuple #[v, x, y])) w' :=
  ⟨v, by rw [h, hx, hy], by rw [h]; exact ho, hb⟩
/-- 's[q:q]' -/
theorem win0 {W : World} {b o c n q : Nat} (h : q < c) :
    (Instr.slice 32 (.slice (some ⟨b, o, none⟩) n c) (some (.int .i64 (q : Int))) (some (.int .i64 (q : Int))) none).run Tryz.prog W = .ok (.slice (some ⟨b, o + q, none⟩) 0 (c - q)) W := by
  have ht' : Tryz.prog.underlying 32 = some (.slice (Tryz.prog.elem 32)) := by simp [Program.elem, Tryz.underlying32]
  have he : Tryz.prog.elem 32 = 5 := by simp [Program.elem, Tryz.underlying32]
  rw [run_slice_lh W 32 _ _ _ ht' .i64 .i64 _ _ (by omega) (by omega) (by omega), he, size_u8]
  have hne : ¬ c = q := by omega
  by_cases h0 : q = 0
  · subst h0
    simp [Result.andThen, sliced, Addr.add, hne]
  · simp [Result.andThen, sliced, Addr.add, hne, h0]
theorem conv0 {W : World} {a : Option Addr} {c : Nat} : (convert 32 9 (.slice a 0 c)).run Tryz.prog W = .ok (.string ⟨#[]⟩) W := by
  rw [run_convert_bytes_string W 32 9 5 a 0 c Tryz.underlying32 Tryz.underlying5 Tryz.underlying9]
  cases a <;> rfl
theorem number_split {s : ByteArray} {q Q : Nat} (h : digTo s q = Q) : (∃ b : Nat, numberAt s q = .bad b ∧ numRes s q Q = (0, (b : Int))) ∨ (∃ N : Nat, numberAt s q = .ok ⟨2, empB, N, q⟩ Q ∧ numRes s q Q = ((N : Int), -1)) := by
  unfold numberAt numRes
  rw [h]
  by_cases h1 : 9223372036854775807 < numOf s q (Q - q)
  · exact .inl ⟨q, by simp only [if_pos h1], by rw [if_pos h1]⟩
  · by_cases h2 : Q < s.size ∧ partI (bt s Q) = true
    · exact .inl ⟨Q, by simp only [if_neg h1, if_pos h2], by rw [if_neg h1, if_pos h2]⟩
    · exact .inr ⟨numOf s q (Q - q), by simp only [if_neg h1, if_neg h2], by rw [if_neg h1, if_neg h2]⟩
theorem markLen_bd {s : ByteArray} {q : Nat} (h : q < s.size) : markLen s q ≤ 2 ∧ q + markLen s q ≤ s.size := by
  unfold markLen
  split
  · omega
  · split <;> omega
set_option maxRecDepth 100000 in
set_option maxHeartbeats 64000000 in
theorem cut_any (A : Option Addr) (c : Nat) (s : ByteArray) (w : World) (hs : Src w A s) (hc : s.size ≤ c) (hL : LibIn w) :
    Calls Tryz.prog 12 #[.slice A s.size c] w (CutPost s w) := by
  obtain ⟨i0, hinf, hz0, hz1, hz2⟩ := info_parts infoTk
  by_cases hbig : 65536 < s.size
  · have HR := Lib.hid (show resOf s = ([], 20, 65536) from if_pos hbig)
    have hbI : (65536 : Int) < s.size := by omega
    have hbx : (w.alloc (.cells #[.slice A s.size c] 32)).cell? ⟨w.heap.size, 0, none⟩ = some (.slice A s.size c) := (G.Blk.new w 32 #[.slice A s.size c]).cell 0
    clear hs hL hc
    go_enter Tryz.func12, Tryz.ntmps12
    go_wp2_with fail
    go_step3
    go_wp2_with fail
    go_ret3
    exact cutPost_mk HR.out rfl rfl (World.ownsRow_nil _ _ _ _) (G.bl_alloc (Below.refl _ _) _)
  · have hn : s.size ≤ 65536 := by omega
    have hnI : ¬ (65536 : Int) < s.size := by omega
    have hnI2 : (s.size : Int) ≤ 65536 := by omega
    obtain ⟨W1, hW1⟩ : ∃ W1, W1 = w.alloc (.cells #[.slice A s.size c] 32) := ⟨_, rfl⟩
    have hb1 : Below w.heap.size w W1 := by rw [hW1]; exact G.bl_alloc (Below.refl _ _) _
    have hsz1 : W1.heap.size = w.heap.size + 1 := by rw [hW1]; simp
    have HBX := Lib.hid (fun W (h : Below W1.heap.size W1 W) => show W.cell? ⟨w.heap.size, 0, none⟩ = some (.slice A s.size c) by
      rw [h.cell (p := ⟨w.heap.size, 0, none⟩) (by rw [hsz1]; exact Nat.lt_succ_self _), hW1]
      exact (G.Blk.new w 32 #[.slice A s.size c]).cell 0)
    have HSR := Lib.hid (fun W (h : Below W1.heap.size W1 W) => (hs.below hb1).below h)
    have HLI := Lib.hid (fun W (h : Below W1.heap.size W1 W) => (hL.below hb1).below h)
    have HB1 := Lib.hid hb1
    have HSZ := Lib.hid hsz1
    have HWE := Lib.hid hW1
    have hbx0 := HBX.out W1 (Below.refl _ _)
    have HC := Lib.hid hc
    obtain ⟨n, hns⟩ : ∃ n, n = s.size := ⟨_, rfl⟩
    have HN := Lib.hid hns
    rw [← hns] at hn hnI hnI2 hbx0 ⊢
    rw [← hns] at HBX hW1
    obtain ⟨bx, hbx⟩ : ∃ bx, bx = w.heap.size := ⟨_, rfl⟩
    rw [← hbx] at HBX hbx0
    have HX := Lib.hid hbx
    clear hs hL hb1 hsz1 hns hbig hc
    go_enter Tryz.func12, Tryz.ntmps12
    go_wp2_with fail
    rw [← hW1, ← hbx]
    clear hW1 hbx
    go_step3
    go_wp2_with fail
    try go_step3
    go_wp2_with fail
    go_loopw [5, 6, 8, 9, 10, 11] (fun l u _ _ _ _ wr => ∃ (q : Nat) (acc : List Tk) (f : Nat), u = .int .i64 q ∧ q ≤ n ∧ acc.length ≤ q ∧ n + 1 ≤ f + q ∧ Hid ((cutF s f q).pre acc = cutOf s) ∧ Below W1.heap.size W1 wr ∧ wr.ownsRow W1.heap.size 24 4 l acc.length (flatT acc)) (fun _ u _ _ _ _ _ => n - (intOf u).toNat)
    case atStart => exact ⟨0, [], s.size + 1, by go_num, by omega, by simp, by have := HN.out; omega, Lib.hid (pre_nil _), Below.refl _ _, World.ownsRow_nil _ _ _ _⟩
    case round =>
      obtain ⟨q, acc, f, rfl, hqn, hal, hf, HG, hbel, hown⟩ := hrel
      have hq0 : (0 : Int) ≤ q := by omega
      have hbxr := HBX.out wr hbel
      have HOWN := Lib.hid hown
      have HBEL := Lib.hid hbel
      by_cases hlt : q < n
      · have hltI : (q : Int) < n := by omega
        obtain ⟨g, rfl⟩ : ∃ g, f = g + 1 := ⟨f - 1, by omega⟩
        have hne : ¬ s.size ≤ q := by have := HN.out; omega
        obtain ⟨b, o, rfl, hbw, hbs, hce⟩ := (HSR.out wr hbel).at (i := q) (by rw [← HN.out]; exact hlt)
        have HBY := Lib.hid (fun W (h : Below wr.heap.size wr W) => (fun i hi => (h.cell (p := ⟨b, o + i, none⟩) hbw).trans (hbs i hi) : Lib.Bytes W b o s))
        obtain ⟨w1, hw1⟩ : ∃ w1, w1 = wr.alloc (.cells #[.int .i8 0, .string ⟨#[]⟩, .int .i64 0, .int .i64 q] 24) := ⟨_, rfl⟩
        obtain ⟨T, hT⟩ : ∃ T, T = wr.heap.size := ⟨_, rfl⟩
        have HTE := Lib.hid hT
        have HBW1 := Lib.hid (show Below wr.heap.size wr w1 by rw [hw1]; exact G.bl_alloc (Below.refl _ _) _)
        have HT := Lib.hid (show G.Blk w1 T 24 #[.int .i8 0, .string ⟨#[]⟩, .int .i64 0, .int .i64 q] by rw [hw1, hT]; exact G.Blk.new _ _ _)
        have HBEL1 := Lib.hid (G.bl_trans HBEL.out HBW1.out)
        have hbx1 := HBX.out w1 HBEL1.out
        have hce1 := (HBW1.out.cell (p := ⟨b, o + q, none⟩) hbw).trans hce
        have hbr := bt_range s q
        have HCLS := Lib.hid (fun W => class_any (bt s q) W hbr.1 hbr.2)
        have HBLT := Lib.hid hbw
        have HCE0 := Lib.hid hce
        have HCEN := Lib.hid (fun i (hi : i < n) => show w1.cell? ⟨b, o + i, none⟩ = some (.int .u8 (bt s i)) by
          rw [HBW1.out.cell (p := ⟨b, o + i, none⟩) hbw, hbs i (by rw [← HN.out]; exact hi), bt_get (by rw [← HN.out]; exact hi)])
        clear hbw hbs hce hbr hown hbel
        go_upto_region 9 with (fail)
        rw [← hw1, ← hT]
        clear hw1 hT hbxr
        have hcc : (blankI (bt s q) = true ∧ classI (bt s q) = 1) ∨ (blankI (bt s q) = false ∧ classI (bt s q) = 2 ∧ partI (bt s q) = true) ∨ (blankI (bt s q) = false ∧ classI (bt s q) = 4 ∧ digitI (bt s q) = true) ∨ (blankI (bt s q) = false ∧ classI (bt s q) = 5) ∨ (blankI (bt s q) = false ∧ (classI (bt s q) = 3 ∨ classI (bt s q) = 0)) := by
          rcases class_cases (bt s q) with ⟨kb, hv, kp⟩ | ⟨kb, ks, hv, kp⟩ | ⟨kb, ks, kg, hv, kp⟩ | ⟨kb, ks, kg, kd, hv, kp⟩ | ⟨kb, ks, kg, kd, k34, hv, kp⟩ | ⟨kb, ks, kg, kd, k34, hv, kp⟩
          · exact .inl ⟨kb, hv⟩
          · exact .inr (.inl ⟨kb, hv, kp⟩)
          · exact .inr (.inr (.inr (.inr ⟨kb, .inl hv⟩)))
          · exact .inr (.inr (.inl ⟨kb, hv, kd⟩))
          · exact .inr (.inr (.inr (.inl ⟨kb, hv⟩)))
          · exact .inr (.inr (.inr (.inr ⟨kb, .inr hv⟩)))
        rcases hcc with ⟨kb, hv⟩ | ⟨kb, hv, kp⟩ | ⟨kb, hv, kd⟩ | ⟨kb, hv⟩ | ⟨kb, hv⟩
        · --[
          as_aux_lemma =>
            have HST := Lib.hid ((show (cutF s g (q + 1)).pre acc = (cutF s (g + 1) q).pre acc by rw [cf_blank hne kb]).trans HG.out)
            rw [hv] at HCLS
            clear kb hv hne
            go_wp2_with fail
            refine (HCLS.out _).mono ?_
            rintro e wq ⟨rfl, rfl⟩

            go_wp2_with fail
            go_roundw
            case rel => exact ⟨q + 1, acc, g, by go_num, by omega, by omega, by omega, HST, (G.bl_trans HBEL.out HBW1.out), G.own_below HOWN.out HBW1.out⟩
            case measure => simp [intOf]; omega
          --]
        · --[
          as_aux_lemma =>
            have hr := not_rem (s := s) (q := q) (class47 (by rw [hv]; decide))
            have htk : tokAt s q = nameAt s q := by unfold tokAt; rw [if_pos hv]
            have hwb := while_bd partI s (q + 1)
            have hws : whileOf partI s q = whileOf partI s (q + 1) := while_step (by rw [← HN.out]; exact hlt) kp
            have hq1 : q < whileOf partI s q := by omega
            have hq2 : whileOf partI s q ≤ n := by rw [hws]; have := HN.out; omega
            have HWH := Lib.hid (while_part (some ⟨b, o, none⟩) c s q bx w1 (HSR.out w1 HBEL1.out) (by rw [← HN.out]; exact hn) (by rw [← HN.out]; exact hqn) (by rw [← HN.out]; exact hbx1))
            obtain ⟨k, hk⟩ : ∃ k, whileOf partI s q = q + k := ⟨whileOf partI s q - q, by omega⟩
            unfold nameAt at htk
            rw [hk] at HWH hq1 hq2 htk
            have eqk : ((q + k : Nat) : Int) = (q : Int) + k := by omega
            rw [eqk] at HWH
            rw [hv] at HCLS
            have hxs : (s.extract q (q + k)).size = k := by rw [ByteArray.size_extract]; have := HN.out; omega
            obtain ⟨X, hX⟩ : ∃ X, X = s.extract q (q + k) := ⟨_, rfl⟩
            rw [← hX] at hxs
            obtain ⟨wA, hA⟩ : ∃ wA, wA = w1.setCell ⟨T, 0, none⟩ (.int .i8 1) := ⟨_, rfl⟩
            have HTA : G.Blk wA T 24 #[.int .i8 1, .string ⟨#[]⟩, .int .i64 0, .int .i64 q] := by rw [hA]; exact HT.out.put 0 _
            have hbA : Below wr.heap.size wr wA := by rw [hA]; exact G.bl_set HBW1.out (by simp [HTE.out]) _
            have hbxA := HBX.out wA (G.bl_trans HBEL.out hbA)
            obtain ⟨hwi1, hwi2⟩ := win (W := wA) (b := b) (o := o) (c := c) (p := q) (k := k) (s := s) (by rw [hA]; exact HBY.out _ (G.bl_set HBW1.out (by simp [HTE.out]) _)) (by omega) HC.out (by rw [← HN.out]; exact hq2)
            rw [← hX] at hwi2
            rw [← HN.out] at hwi1
            obtain ⟨wE, hE⟩ : ∃ wE, wE = wA.setCell ⟨T, 1, none⟩ (.string X) := ⟨_, rfl⟩
            have HTE2 : G.Blk wE T 24 #[.int .i8 1, .string X, .int .i64 0, .int .i64 q] := by rw [hE]; exact HTA.put 1 _
            have hbE : Below wr.heap.size wr wE := by rw [hE]; exact G.bl_set hbA (by simp [HTE.out]) _
            have HBE := Lib.hid (G.bl_trans HBEL.out hbE)
            have HOE := Lib.hid (G.own_below HOWN.out hbE)
            have f0 := HT.out.frozen 0
            have c0 := HT.out.cell 0
            have f1 := HTA.frozen 1
            have c1 := HTA.cell 1
            have d0 := HTE2.cell 0
            have d1 := HTE2.cell 1
            have d2 := HTE2.cell 2
            have d3 := HTE2.cell 3
            have hbxE := HBX.out wE HBE.out
            simp at c0 c1 d0 d1 d2 d3
            have hcases : (32 < k ∧ tokAt s q = .bad q) ∨ (¬ 32 < k ∧ tokAt s q = .ok ⟨1, X, 0, q⟩ (q + k)) := by
              rw [htk]
              by_cases h : 32 < k
              · exact .inl ⟨h, by rw [if_pos (by omega)]⟩
              · exact .inr ⟨h, by rw [if_neg (by omega), ← hX]⟩
            have hRB := fun hb => resOf_bad (s := s) (q := q) (by rw [← HN.out]; exact hn) (HG.out.symm.trans (by rw [cf_bad hne kb hr hb]; rfl))
            have hRO := fun ho => ((show (cutF s g (q + k)).pre (acc ++ [⟨1, X, 0, q⟩]) = (cutF s (g + 1) q).pre acc by rw [cf_ok hne kb hr ho, pre_cons]).trans HG.out)
            clear hbA HTA HTE2 hbE hX htk hwb hws hk eqk kb hv kp hne hr
            go_wp2_with fail
            refine (HCLS.out _).mono ?_
            rintro e wq ⟨rfl, rfl⟩
            go_wp2_with fail
            refine HWH.out.mono ?_
            rintro e wq ⟨rfl, rfl⟩
            go_upto_region 21 with (fail)
            rw [← hA]
            clear hA hbx1 hce1
            go_upto_region 22 with (fail)
            rw [← hE]
            clear hE hbxA
            rcases hcases with ⟨h32, hb⟩ | ⟨h32, hb⟩
            · have HR := Lib.hid (hRB hb)
              have h32I : (32 : Int) < k := by omega
              clear hRB hRO hb
              go_wp2_with fail
              go_ret3
              exact cutPost_mk HR.out rfl rfl (World.ownsRow_nil _ _ _ _) (G.bl_trans HB1.out (by rw [show W1.heap.size = W1.heap.size from rfl]; exact HBE.out))
            · have HST := Lib.hid (hRO hb)
              have h32I : ¬ (32 : Int) < k := by omega
              clear hRB hRO hb
              go_wp2_with (at_builtin; refine wpList_append_own _ rfl (.tmp 125) (.tmp 127) 29 rfl W1.heap.size 24 i0 (.agg #[.int .i8 0, .string ⟨#[]⟩, .int .i64 0, .int .i64 0]) 4 40 Tryz.underlying29 hinf hz0 hz1 hz2 rfl (by decide) _ _ _ rfl (HOE.out.alloc _) ⟨wE.heap.size, 0, none⟩ 1 1 (Tk.cells ⟨1, X, 0, q⟩) rfl rfl (G.cells_new _ _ _ _ (by simp)) (tk_one _) (by unfold maxLen; omega) (by omega) (by have := HBE.out.size; simp; omega) ?_; intro v3 w3 hown3 hg3 _q; have HB3 := Lib.hid (bl_grown (G.bl_alloc HBE.out _) (HOE.out.alloc _) hg3); have HO3 := Lib.hid hown3; clear hown3 hg3)
              go_roundw
              case rel => exact ⟨q + k, acc ++ [⟨1, X, 0, q⟩], g, by go_num, by omega, by simp; omega, by omega, HST, HB3.out, by rw [flatT_snoc, List.length_append]; exact HO3.out⟩
              case measure => simp [intOf]; omega
          --]
        · by_cases h48 : bt s q = 48
          · --[
            as_aux_lemma =>
              have hr := not_rem (s := s) (q := q) (class47 (by rw [hv]; decide))
              have htk : tokAt s q = numberAt s q := by unfold tokAt; rw [if_neg (by rw [hv]; decide), if_pos hv]
              obtain ⟨hd1, hd2, hd3⟩ := digTo_bd (s := s) (q := q) (by rw [← HN.out]; exact hlt) kd
              have hk : digTo s q = q + 1 := if_pos h48
              have eqk : ((q + 1 : Nat) : Int) = (q : Int) + 1 := by omega
              obtain ⟨wA, hA⟩ : ∃ wA, wA = w1.setCell ⟨T, 0, none⟩ (.int .i8 2) := ⟨_, rfl⟩
              have HTA := Lib.hid (show G.Blk wA T 24 #[.int .i8 2, .string ⟨#[]⟩, .int .i64 0, .int .i64 q] by rw [hA]; exact HT.out.put 0 _)
              have HBA := Lib.hid (show Below wr.heap.size wr wA by rw [hA]; exact G.bl_set HBW1.out (by simp [HTE.out]) _)
              have hbxA := HBX.out wA (G.bl_trans HBEL.out HBA.out)
              have f0 := HT.out.frozen 0
              have c0 := HT.out.cell 0
              simp at c0
              rw [hk] at hd1 hd2 hd3
              have hd2n : q + 1 ≤ n := by rw [HN.out]; exact hd2
              have HNU := Lib.hid (number_any (some ⟨b, o, none⟩) c s q (q + 1) wA (HSR.out wA (G.bl_trans HBEL.out HBA.out)) HC.out (by rw [← HN.out]; exact hn) hd1 hd2 hd3 (HLI.out wA (G.bl_trans HBEL.out HBA.out)))
              have hsp := number_split hk
              obtain ⟨N, Bd, hnr⟩ : ∃ N Bd, numRes s q (q + 1) = (N, Bd) := ⟨_, _, rfl⟩
              unfold NumPost at HNU
              rw [hnr, eqk, ← HN.out] at HNU
              rw [hnr, ← htk] at hsp
              rw [hv] at HCLS
              have hsp2 : (∃ b : Nat, tokAt s q = .bad b ∧ Bd = b) ∨ (∃ M : Nat, tokAt s q = .ok ⟨2, ⟨#[]⟩, M, q⟩ (q + 1) ∧ N = M ∧ Bd = -1) := by
                rcases hsp with ⟨b', h1, h2⟩ | ⟨M, h1, h2⟩
                · exact .inl ⟨b', h1, by injection h2⟩
                · exact .inr ⟨M, h1, by injection h2, by injection h2⟩
              have hRB := fun b' hb => resOf_bad (s := s) (q := b') (by rw [← HN.out]; exact hn) (HG.out.symm.trans (by rw [cf_bad hne kb hr hb]; rfl))
              have hRO := fun M ho => ((show (cutF s g (q + 1)).pre (acc ++ [⟨2, ⟨#[]⟩, M, q⟩]) = (cutF s (g + 1) q).pre acc by rw [cf_ok hne kb hr ho, pre_cons]).trans HG.out)
              have HRB := Lib.hid hRB
              have HRO := Lib.hid hRO
              have HSP := Lib.hid hsp2
              have hceA := (HBA.out.cell (p := ⟨b, o + q, none⟩) (show b < wr.heap.size from HBLT.out)).trans HCE0.out
              clear hRB hRO hsp hsp2 hnr hk eqk kb hv kd hne hr htk hd2 hd3
              rw [h48] at hce1 hceA HCLS
              clear h48
              go_wp2_with fail
              refine (HCLS.out _).mono ?_
              rintro e wq ⟨rfl, rfl⟩
              go_upto_region 26 with (fail)
              rw [← hA]
              clear hA hbx1 hce1
              go_wp2_with fail
              refine HNU.out.mono ?_
              rintro e w3 ⟨rfl, hb3⟩
              have HT3 := Lib.hid (HTA.out.below hb3 HTA.out.lt)
              have HB3a := Lib.hid (G.bl_trans HBA.out hb3)
              have f3 := HT3.out.frozen 2
              have c3 := HT3.out.cell 2
              obtain ⟨wE, hE⟩ : ∃ wE, wE = w3.setCell ⟨T, 2, none⟩ (.int .i64 N) := ⟨_, rfl⟩
              have HTE2 : G.Blk wE T 24 #[.int .i8 2, .string ⟨#[]⟩, .int .i64 N, .int .i64 q] := by rw [hE]; exact HT3.out.put 2 _
              have hbE : Below wr.heap.size wr wE := by rw [hE]; exact G.bl_set HB3a.out (by simp [HTE.out]) _
              have HBE := Lib.hid (G.bl_trans HBEL.out hbE)
              have HOE := Lib.hid (G.own_below HOWN.out hbE)
              have d0 := HTE2.cell 0
              have d1 := HTE2.cell 1
              have d2 := HTE2.cell 2
              have d3 := HTE2.cell 3
              have hbxE := HBX.out wE HBE.out
              simp at c3 d0 d1 d2 d3
              clear HTE2 hbE hb3 hbxA
              go_upto_region 34 with (fail)
              rw [← hE]
              clear hE
              rcases HSP.out with ⟨b', hb, rfl⟩ | ⟨M, hb, rfl, rfl⟩
              · have HR := Lib.hid (HRB.out b' hb)
                have hb0 : (0 : Int) ≤ b' := by omega
                clear hb
                go_wp2_with fail
                go_ret3
                exact cutPost_mk HR.out rfl rfl (World.ownsRow_nil _ _ _ _) (G.bl_trans HB1.out (by rw [show W1.heap.size = W1.heap.size from rfl]; exact HBE.out))
              · have HST := Lib.hid (HRO.out M hb)
                clear hb
                go_wp2_with (at_builtin; refine wpList_append_own _ rfl (.tmp 125) (.tmp 127) 29 rfl W1.heap.size 24 i0 (.agg #[.int .i8 0, .string ⟨#[]⟩, .int .i64 0, .int .i64 0]) 4 40 Tryz.underlying29 hinf hz0 hz1 hz2 rfl (by decide) _ _ _ rfl (HOE.out.alloc _) ⟨wE.heap.size, 0, none⟩ 1 1 (Tk.cells ⟨2, ⟨#[]⟩, M, q⟩) rfl rfl (G.cells_new _ _ _ _ (by simp)) (tk_one _) (by unfold maxLen; omega) (by omega) (by have := HBE.out.size; simp; omega) ?_; intro v3 w3 hown3 hg3 _q; have HB3 := Lib.hid (bl_grown (G.bl_alloc HBE.out _) (HOE.out.alloc _) hg3); have HO3 := Lib.hid hown3; clear hown3 hg3)
                go_roundw
                case rel => exact ⟨q + 1, acc ++ [⟨2, ⟨#[]⟩, M, q⟩], g, by go_num, by omega, by simp; omega, by omega, HST, HB3.out, by rw [flatT_snoc, List.length_append]; exact HO3.out⟩
                case measure => simp [intOf]; omega
            --]
          · --[
            as_aux_lemma =>
              have hr := not_rem (s := s) (q := q) (class47 (by rw [hv]; decide))
              have htk : tokAt s q = numberAt s q := by unfold tokAt; rw [if_neg (by rw [hv]; decide), if_pos hv]
              obtain ⟨hd1, hd2, hd3⟩ := digTo_bd (s := s) (q := q) (by rw [← HN.out]; exact hlt) kd
              have hdt : digTo s q = whileOf digitI s q := if_neg h48
              obtain ⟨k, hk⟩ : ∃ k, digTo s q = q + k := ⟨digTo s q - q, by omega⟩
              have eqk : ((q + k : Nat) : Int) = (q : Int) + k := by omega
              obtain ⟨wA, hA⟩ : ∃ wA, wA = w1.setCell ⟨T, 0, none⟩ (.int .i8 2) := ⟨_, rfl⟩
              have HTA := Lib.hid (show G.Blk wA T 24 #[.int .i8 2, .string ⟨#[]⟩, .int .i64 0, .int .i64 q] by rw [hA]; exact HT.out.put 0 _)
              have HBA := Lib.hid (show Below wr.heap.size wr wA by rw [hA]; exact G.bl_set HBW1.out (by simp [HTE.out]) _)
              have hbxA := HBX.out wA (G.bl_trans HBEL.out HBA.out)
              have f0 := HT.out.frozen 0
              have c0 := HT.out.cell 0
              simp at c0
              have HWH := Lib.hid (while_digit (some ⟨b, o, none⟩) c s q bx wA (HSR.out wA (G.bl_trans HBEL.out HBA.out)) (by rw [← HN.out]; exact hn) (by rw [← HN.out]; exact hqn) (by rw [← HN.out]; exact hbxA))
              rw [← hdt, hk, eqk] at HWH
              rw [hk] at hd1 hd2 hd3
              have hd2n : q + k ≤ n := by rw [HN.out]; exact hd2
              have HNU := Lib.hid (number_any (some ⟨b, o, none⟩) c s q (q + k) wA (HSR.out wA (G.bl_trans HBEL.out HBA.out)) HC.out (by rw [← HN.out]; exact hn) hd1 hd2 hd3 (HLI.out wA (G.bl_trans HBEL.out HBA.out)))
              have hsp := number_split hk
              obtain ⟨N, Bd, hnr⟩ : ∃ N Bd, numRes s q (q + k) = (N, Bd) := ⟨_, _, rfl⟩
              unfold NumPost at HNU
              rw [hnr, eqk, ← HN.out] at HNU
              rw [hnr, ← htk] at hsp
              rw [hv] at HCLS
              have hsp2 : (∃ b : Nat, tokAt s q = .bad b ∧ Bd = b) ∨ (∃ M : Nat, tokAt s q = .ok ⟨2, ⟨#[]⟩, M, q⟩ (q + k) ∧ N = M ∧ Bd = -1) := by
                rcases hsp with ⟨b', h1, h2⟩ | ⟨M, h1, h2⟩
                · exact .inl ⟨b', h1, by injection h2⟩
                · exact .inr ⟨M, h1, by injection h2, by injection h2⟩
              have hRB := fun b' hb => resOf_bad (s := s) (q := b') (by rw [← HN.out]; exact hn) (HG.out.symm.trans (by rw [cf_bad hne kb hr hb]; rfl))
              have hRO := fun M ho => ((show (cutF s g (q + k)).pre (acc ++ [⟨2, ⟨#[]⟩, M, q⟩]) = (cutF s (g + 1) q).pre acc by rw [cf_ok hne kb hr ho, pre_cons]).trans HG.out)
              have HRB := Lib.hid hRB
              have HRO := Lib.hid hRO
              have HSP := Lib.hid hsp2
              have hceA := (HBA.out.cell (p := ⟨b, o + q, none⟩) (show b < wr.heap.size from HBLT.out)).trans HCE0.out
              clear hRB hRO hsp hsp2 hnr hk eqk kb hv kd hne hr htk hd2 hd3
              clear hdt
              have n48 := ne_b2 h48
              generalize bt s q = y at *
              go_wp2_with fail
              refine (HCLS.out _).mono ?_
              rintro e wq ⟨rfl, rfl⟩
              go_upto_region 26 with (fail)
              rw [← hA]
              clear hA hbx1 hce1
              go_wp2_with fail
              refine HWH.out.mono ?_
              rintro e wq ⟨rfl, rfl⟩
              go_wp2_with fail
              refine HNU.out.mono ?_
              rintro e w3 ⟨rfl, hb3⟩
              have HT3 := Lib.hid (HTA.out.below hb3 HTA.out.lt)
              have HB3a := Lib.hid (G.bl_trans HBA.out hb3)
              have f3 := HT3.out.frozen 2
              have c3 := HT3.out.cell 2
              obtain ⟨wE, hE⟩ : ∃ wE, wE = w3.setCell ⟨T, 2, none⟩ (.int .i64 N) := ⟨_, rfl⟩
              have HTE2 : G.Blk wE T 24 #[.int .i8 2, .string ⟨#[]⟩, .int .i64 N, .int .i64 q] := by rw [hE]; exact HT3.out.put 2 _
              have hbE : Below wr.heap.size wr wE := by rw [hE]; exact G.bl_set HB3a.out (by simp [HTE.out]) _
              have HBE := Lib.hid (G.bl_trans HBEL.out hbE)
              have HOE := Lib.hid (G.own_below HOWN.out hbE)
              have d0 := HTE2.cell 0
              have d1 := HTE2.cell 1
              have d2 := HTE2.cell 2
              have d3 := HTE2.cell 3
              have hbxE := HBX.out wE HBE.out
              simp at c3 d0 d1 d2 d3
              clear HTE2 hbE hb3 hbxA
              go_upto_region 34 with (fail)
              rw [← hE]
              clear hE
              rcases HSP.out with ⟨b', hb, rfl⟩ | ⟨M, hb, rfl, rfl⟩
              · have HR := Lib.hid (HRB.out b' hb)
                have hb0 : (0 : Int) ≤ b' := by omega
                clear hb
                go_wp2_with fail
                go_ret3
                exact cutPost_mk HR.out rfl rfl (World.ownsRow_nil _ _ _ _) (G.bl_trans HB1.out (by rw [show W1.heap.size = W1.heap.size from rfl]; exact HBE.out))
              · have HST := Lib.hid (HRO.out M hb)
                clear hb
                go_wp2_with (at_builtin; refine wpList_append_own _ rfl (.tmp 125) (.tmp 127) 29 rfl W1.heap.size 24 i0 (.agg #[.int .i8 0, .string ⟨#[]⟩, .int .i64 0, .int .i64 0]) 4 40 Tryz.underlying29 hinf hz0 hz1 hz2 rfl (by decide) _ _ _ rfl (HOE.out.alloc _) ⟨wE.heap.size, 0, none⟩ 1 1 (Tk.cells ⟨2, ⟨#[]⟩, M, q⟩) rfl rfl (G.cells_new _ _ _ _ (by simp)) (tk_one _) (by unfold maxLen; omega) (by omega) (by have := HBE.out.size; simp; omega) ?_; intro v3 w3 hown3 hg3 _q; have HB3 := Lib.hid (bl_grown (G.bl_alloc HBE.out _) (HOE.out.alloc _) hg3); have HO3 := Lib.hid hown3; clear hown3 hg3)
                go_roundw
                case rel => exact ⟨q + k, acc ++ [⟨2, ⟨#[]⟩, M, q⟩], g, by go_num, by omega, by simp; omega, by omega, HST, HB3.out, by rw [flatT_snoc, List.length_append]; exact HO3.out⟩
                case measure => simp [intOf]; omega
            --]
        · --[
          as_aux_lemma =>
            have hr := not_rem (s := s) (q := q) (class47 (by rw [hv]; decide))
            have htk : tokAt s q = textAt s q := by unfold tokAt; rw [if_neg (by rw [hv]; decide), if_neg (by rw [hv]; decide), if_pos hv]
            unfold textAt at htk
            obtain ⟨wA, hA⟩ : ∃ wA, wA = w1.setCell ⟨T, 0, none⟩ (.int .i8 3) := ⟨_, rfl⟩
            have HTA := Lib.hid (show G.Blk wA T 24 #[.int .i8 3, .string ⟨#[]⟩, .int .i64 0, .int .i64 q] by rw [hA]; exact HT.out.put 0 _)
            have HBA := Lib.hid (show Below wr.heap.size wr wA by rw [hA]; exact G.bl_set HBW1.out (by simp [HTE.out]) _)
            have hbxA := HBX.out wA (G.bl_trans HBEL.out HBA.out)
            have f0 := HT.out.frozen 0
            have c0 := HT.out.cell 0
            simp at c0
            have HTX := Lib.hid (text_any (some ⟨b, o, none⟩) c s q wA (HSR.out wA (G.bl_trans HBEL.out HBA.out)) (by rw [← HN.out]; exact hn) (by rw [← HN.out]; exact hlt))
            unfold TextPost textRes at HTX
            have hgt := fun r q' => textGo_gt (s := s) (p := q) (s.size - q) (q + 1) [] r q'
            rw [hv] at HCLS
            generalize textGo s q (s.size - q) (q + 1) [] = R at HTX htk hgt
            obtain ⟨ro, rq⟩ := R
            rw [← HN.out] at HTX
            cases ro with
            | none =>
              have HR := Lib.hid (resOf_bad (s := s) (q := rq) (by rw [← HN.out]; exact hn) (HG.out.symm.trans (by rw [cf_bad hne kb hr htk]; rfl)))
              have hq0' : (0 : Int) ≤ rq := by omega
              have HTX2 : Hid (Calls Tryz.prog 28 #[.slice (some ⟨b, o, none⟩) n c, .int .i64 q] wA fun e w' => e = .returned (.tuple #[.string ⟨#[]⟩, .int .i64 (-1), .int .i64 rq]) ∧ Below wA.heap.size wA w') := HTX
              clear HTX htk hgt hr kb hv hne
              go_wp2_with fail
              refine (HCLS.out _).mono ?_
              rintro e wq ⟨rfl, rfl⟩
              go_upto_region 31 with (fail)
              rw [← hA]
              clear hA hbx1 hce1
              go_wp2_with fail
              refine HTX2.out.mono ?_
              rintro e w3 ⟨rfl, hb3⟩
              have HT3 := Lib.hid (HTA.out.below hb3 HTA.out.lt)
              have HB3a := Lib.hid (G.bl_trans HBA.out hb3)
              have f3 := HT3.out.frozen 1
              have c3 := HT3.out.cell 1
              obtain ⟨wE, hE⟩ : ∃ wE, wE = w3.setCell ⟨T, 1, none⟩ (.string ⟨#[]⟩) := ⟨_, rfl⟩
              have HTE2 : G.Blk wE T 24 #[.int .i8 3, .string ⟨#[]⟩, .int .i64 0, .int .i64 q] := by rw [hE]; exact HT3.out.put 1 _
              have hbE : Below wr.heap.size wr wE := by rw [hE]; exact G.bl_set HB3a.out (by simp [HTE.out]) _
              have HBE := Lib.hid (G.bl_trans HBEL.out hbE)
              have HOE := Lib.hid (G.own_below HOWN.out hbE)
              have d0 := HTE2.cell 0
              have d1 := HTE2.cell 1
              have d2 := HTE2.cell 2
              have d3 := HTE2.cell 3
              have hbxE := HBX.out wE HBE.out
              simp at c3 d0 d1 d2 d3
              clear HTE2 hbE hb3 hbxA
              go_upto_region 34 with (fail)
              rw [← hE]
              clear hE
              go_wp2_with fail
              go_ret3
              exact cutPost_mk HR.out rfl rfl (World.ownsRow_nil _ _ _ _) (G.bl_trans HB1.out (by rw [show W1.heap.size = W1.heap.size from rfl]; exact HBE.out))
            | some out =>
              obtain ⟨hg1, hg2⟩ := hgt out rq rfl
              have hg3 : rq ≤ n := by rw [HN.out]; exact hg2
              have hq0' : (0 : Int) ≤ rq := by omega
              obtain ⟨X, hX⟩ : ∃ X, X = (⟨out.toArray⟩ : ByteArray) := ⟨_, rfl⟩
              have HST := Lib.hid ((show (cutF s g rq).pre (acc ++ [⟨3, X, 0, q⟩]) = (cutF s (g + 1) q).pre acc by rw [cf_ok hne kb hr htk, pre_cons, hX]).trans HG.out)
              have HTX2 : Hid (Calls Tryz.prog 28 #[.slice (some ⟨b, o, none⟩) n c, .int .i64 q] wA fun e w' => e = .returned (.tuple #[.string X, .int .i64 rq, .int .i64 0]) ∧ Below wA.heap.size wA w') := by rw [hX]; exact HTX
              clear hX hg2
              clear HTX htk hgt hr kb hv hne
              go_wp2_with fail
              refine (HCLS.out _).mono ?_
              rintro e wq ⟨rfl, rfl⟩
              go_upto_region 31 with (fail)
              rw [← hA]
              clear hA hbx1 hce1
              go_wp2_with fail
              refine HTX2.out.mono ?_
              rintro e w3 ⟨rfl, hb3⟩
              have HT3 := Lib.hid (HTA.out.below hb3 HTA.out.lt)
              have HB3a := Lib.hid (G.bl_trans HBA.out hb3)
              have f3 := HT3.out.frozen 1
              have c3 := HT3.out.cell 1
              obtain ⟨wE, hE⟩ : ∃ wE, wE = w3.setCell ⟨T, 1, none⟩ (.string X) := ⟨_, rfl⟩
              have HTE2 : G.Blk wE T 24 #[.int .i8 3, .string X, .int .i64 0, .int .i64 q] := by rw [hE]; exact HT3.out.put 1 _
              have hbE : Below wr.heap.size wr wE := by rw [hE]; exact G.bl_set HB3a.out (by simp [HTE.out]) _
              have HBE := Lib.hid (G.bl_trans HBEL.out hbE)
              have HOE := Lib.hid (G.own_below HOWN.out hbE)
              have d0 := HTE2.cell 0
              have d1 := HTE2.cell 1
              have d2 := HTE2.cell 2
              have d3 := HTE2.cell 3
              have hbxE := HBX.out wE HBE.out
              simp at c3 d0 d1 d2 d3
              clear HTE2 hbE hb3 hbxA
              go_upto_region 34 with (fail)
              rw [← hE]
              clear hE
              go_wp2_with (at_builtin; refine wpList_append_own _ rfl (.tmp 125) (.tmp 127) 29 rfl W1.heap.size 24 i0 (.agg #[.int .i8 0, .string ⟨#[]⟩, .int .i64 0, .int .i64 0]) 4 40 Tryz.underlying29 hinf hz0 hz1 hz2 rfl (by decide) _ _ _ rfl (HOE.out.alloc _) ⟨wE.heap.size, 0, none⟩ 1 1 (Tk.cells ⟨3, X, 0, q⟩) rfl rfl (G.cells_new _ _ _ _ (by simp)) (tk_one _) (by unfold maxLen; omega) (by omega) (by have := HBE.out.size; simp; omega) ?_; intro v3 w3 hown3 hg3 _q; have HB3 := Lib.hid (bl_grown (G.bl_alloc HBE.out _) (HOE.out.alloc _) hg3); have HO3 := Lib.hid hown3; clear hown3 hg3)
              go_roundw
              case rel => exact ⟨rq, acc ++ [⟨3, X, 0, q⟩], g, by go_num, by omega, by simp; omega, by omega, HST, HB3.out, by rw [flatT_snoc, List.length_append]; exact HO3.out⟩
              case measure => simp [intOf]; omega
          --]
        · skip
          have hc47 : ¬ classI (bt s q) = 2 ∧ ¬ classI (bt s q) = 4 ∧ ¬ classI (bt s q) = 5 := by rcases hv with h | h <;> rw [h] <;> decide
          have htk : tokAt s q = markAt s q := by unfold tokAt; rw [if_neg hc47.1, if_neg hc47.2.1, if_neg hc47.2.2]
          have nc1 := ne_b (show ¬ classI (bt s q) = 1 by rcases hv with h | h <;> rw [h] <;> decide)
          have nc2 := ne_b hc47.1
          have nc4 := ne_b hc47.2.1
          have nc5 := ne_b hc47.2.2
          generalize classI (bt s q) = C at HCLS nc1 nc2 nc4 nc5
          clear hc47 hv
          by_cases h47 : bt s q = 47
          · by_cases hnx : q + 1 < n
            · by_cases hz : bt s (q + 1) = 47
              · --[
                as_aux_lemma =>
                  have hr : remB s q = true := by unfold remB; rw [h47, hz, decide_eq_true (by rw [← HN.out]; exact hnx)]; rfl
                  have hnxI : (q : Int) + 1 < n := by omega
                  have hws : whileOf notNl s q = whileOf notNl s (q + 1) := while_step (by rw [← HN.out]; exact hlt) (by rw [h47]; rfl)
                  have hwb := while_bd notNl s (q + 1)
                  have hq1 : q < whileOf notNl s q := by omega
                  have hq2 : whileOf notNl s q ≤ n := by rw [hws]; have := HN.out; omega
                  have HWH := Lib.hid (while_rest (some ⟨b, o, none⟩) c s q bx w1 (HSR.out w1 HBEL1.out) (by rw [← HN.out]; exact hn) (by rw [← HN.out]; exact hqn) (by rw [← HN.out]; exact hbx1))
                  have HST := Lib.hid ((show (cutF s g (whileOf notNl s q)).pre acc = (cutF s (g + 1) q).pre acc by rw [cf_rem hne kb hr]).trans HG.out)
                  have hce2 := HCEN.out (q + 1) hnx
                  rw [h47] at hce1 HCLS
                  rw [hz] at hce2
                  obtain ⟨Q, hQ⟩ : ∃ Q, Q = whileOf notNl s q := ⟨_, rfl⟩
                  rw [← hQ] at HWH HST hq1 hq2
                  clear hws hwb hQ hr kb hne h47 hz htk
                  go_wp2_with fail
                  refine (HCLS.out _).mono ?_
                  rintro e wq ⟨rfl, rfl⟩
                  go_wp2_with fail
                  refine HWH.out.mono ?_
                  rintro e wq ⟨rfl, rfl⟩
                  go_wp2_with fail
                  go_roundw
                  case rel => exact ⟨Q, acc, g, by go_num, by omega, by omega, by omega, HST, (G.bl_trans HBEL.out HBW1.out), G.own_below HOWN.out HBW1.out⟩
                  case measure => simp [intOf]; omega
                --]
              · skip
                by_cases hm0 : markLen s q = 0
                · --[
                  as_aux_lemma =>
                    have hr : remB s q = false := by unfold remB; rw [show (bt s (q + 1) == 47) = false by simpa using hz]; simp
                    have hnxI : (q : Int) + 1 < n := by omega
                    rw [h47] at hce1 HCLS
                    have nz := ne_b hz
                    have hce2 := HCEN.out (q + 1) hnx
                    obtain ⟨hm2, hmn⟩ := markLen_bd (s := s) (q := q) (by rw [← HN.out]; exact hlt)
                    have HMK := Lib.hid (mark_any (some ⟨b, o, none⟩) c s q w1 (HSR.out w1 HBEL1.out) HC.out (by rw [← HN.out]; exact hn) (by rw [← HN.out]; exact hlt) (HLI.out w1 HBEL1.out))
                    unfold markAt at htk
                    rw [← HN.out] at HMK hmn
                    obtain ⟨wA, hA⟩ : ∃ wA, wA = w1.setCell ⟨T, 0, none⟩ (.int .i8 4) := ⟨_, rfl⟩
                    have HTA := Lib.hid (show G.Blk wA T 24 #[.int .i8 4, .string ⟨#[]⟩, .int .i64 0, .int .i64 q] by rw [hA]; exact HT.out.put 0 _)
                    have HBA := Lib.hid (show Below wr.heap.size wr wA by rw [hA]; exact G.bl_set HBW1.out (by simp [HTE.out]) _)
                    have hbxA := HBX.out wA (G.bl_trans HBEL.out HBA.out)
                    have f0 := HT.out.frozen 0
                    have c0 := HT.out.cell 0
                    simp at c0
                    rw [if_pos hm0] at htk
                    rw [hm0] at HMK
                    have HMK2 : Hid (Calls Tryz.prog 30 #[.slice (some ⟨b, o, none⟩) n c, .int .i64 q] w1 fun e w' => e = .returned (.int .i64 0) ∧ w1 = w') := HMK
                    have HR := Lib.hid (resOf_bad (s := s) (q := q) (by rw [← HN.out]; exact hn) (HG.out.symm.trans (by rw [cf_bad hne kb hr htk]; rfl)))
                    have hwi1 := win0 (W := wA) (b := b) (o := o) (c := c) (n := n) (q := q) (by have := HC.out; have := HN.out; omega)
                    have hwi2 := conv0 (W := wA) (a := some ⟨b, o + q, none⟩) (c := c - q)
                    have hq00 : (q : Int) + 0 = q := by omega
                    clear hm0 HMK
                    obtain ⟨wE, hE⟩ : ∃ wE, wE = wA.setCell ⟨T, 1, none⟩ (.string ⟨#[]⟩) := ⟨_, rfl⟩
                    have HTE2 : G.Blk wE T 24 #[.int .i8 4, .string ⟨#[]⟩, .int .i64 0, .int .i64 q] := by rw [hE]; exact HTA.out.put 1 _
                    have hbE : Below wr.heap.size wr wE := by rw [hE]; exact G.bl_set HBA.out (by simp [HTE.out]) _
                    have HBE := Lib.hid (G.bl_trans HBEL.out hbE)
                    have HOE := Lib.hid (G.own_below HOWN.out hbE)
                    have f1 := HTA.out.frozen 1
                    have c1 := HTA.out.cell 1
                    have d0 := HTE2.cell 0
                    have d1 := HTE2.cell 1
                    have d2 := HTE2.cell 2
                    have d3 := HTE2.cell 3
                    have hbxE := HBX.out wE HBE.out
                    simp at c1 d0 d1 d2 d3
                    clear HTE2 hbE htk hr kb hne
                    generalize bt s (q + 1) = z at *
                    clear h47 hz
                    go_wp2_with fail
                    refine (HCLS.out _).mono ?_
                    rintro e wq ⟨rfl, rfl⟩
                    go_wp2_with fail
                    refine HMK2.out.mono ?_
                    rintro e wq ⟨rfl, rfl⟩
                    go_upto_region 14 with (fail)
                    rw [← hA]
                    clear hA hbx1 hce1
                    go_upto_region 34 with (fail)
                    rw [← hE]
                    clear hE hbxA
                    go_wp2_with fail
                    go_ret3
                    exact cutPost_mk HR.out rfl rfl (World.ownsRow_nil _ _ _ _) (G.bl_trans HB1.out (by rw [show W1.heap.size = W1.heap.size from rfl]; exact HBE.out))
                  --]
                · --[
                  as_aux_lemma =>
                    have hr : remB s q = false := by unfold remB; rw [show (bt s (q + 1) == 47) = false by simpa using hz]; simp
                    have hnxI : (q : Int) + 1 < n := by omega
                    rw [h47] at hce1 HCLS
                    have nz := ne_b hz
                    have hce2 := HCEN.out (q + 1) hnx
                    obtain ⟨hm2, hmn⟩ := markLen_bd (s := s) (q := q) (by rw [← HN.out]; exact hlt)
                    have HMK := Lib.hid (mark_any (some ⟨b, o, none⟩) c s q w1 (HSR.out w1 HBEL1.out) HC.out (by rw [← HN.out]; exact hn) (by rw [← HN.out]; exact hlt) (HLI.out w1 HBEL1.out))
                    unfold markAt at htk
                    rw [← HN.out] at HMK hmn
                    obtain ⟨wA, hA⟩ : ∃ wA, wA = w1.setCell ⟨T, 0, none⟩ (.int .i8 4) := ⟨_, rfl⟩
                    have HTA := Lib.hid (show G.Blk wA T 24 #[.int .i8 4, .string ⟨#[]⟩, .int .i64 0, .int .i64 q] by rw [hA]; exact HT.out.put 0 _)
                    have HBA := Lib.hid (show Below wr.heap.size wr wA by rw [hA]; exact G.bl_set HBW1.out (by simp [HTE.out]) _)
                    have hbxA := HBX.out wA (G.bl_trans HBEL.out HBA.out)
                    have f0 := HT.out.frozen 0
                    have c0 := HT.out.cell 0
                    simp at c0
                    rw [if_neg hm0] at htk
                    generalize markLen s q = k at *
                    have hkk := ne_b (show ¬ (k : Int) = 0 by omega)
                    obtain ⟨X, hX⟩ : ∃ X, X = s.extract q (q + k) := ⟨_, rfl⟩
                    have HMK2 := HMK
                    have HST := Lib.hid ((show (cutF s g (q + k)).pre (acc ++ [⟨4, X, 0, q⟩]) = (cutF s (g + 1) q).pre acc by rw [cf_ok hne kb hr htk, pre_cons, hX]).trans HG.out)
                    obtain ⟨hwi1, hwi2⟩ := win (W := wA) (b := b) (o := o) (c := c) (p := q) (k := k) (s := s) (HBY.out _ HBA.out) (by omega) HC.out (by rw [← HN.out]; exact hmn)
                    rw [← hX] at hwi2
                    rw [← HN.out] at hwi1
                    have hm1 : 0 < k := by omega
                    clear hX HMK hm0
                    obtain ⟨wE, hE⟩ : ∃ wE, wE = wA.setCell ⟨T, 1, none⟩ (.string X) := ⟨_, rfl⟩
                    have HTE2 : G.Blk wE T 24 #[.int .i8 4, .string X, .int .i64 0, .int .i64 q] := by rw [hE]; exact HTA.out.put 1 _
                    have hbE : Below wr.heap.size wr wE := by rw [hE]; exact G.bl_set HBA.out (by simp [HTE.out]) _
                    have HBE := Lib.hid (G.bl_trans HBEL.out hbE)
                    have HOE := Lib.hid (G.own_below HOWN.out hbE)
                    have f1 := HTA.out.frozen 1
                    have c1 := HTA.out.cell 1
                    have d0 := HTE2.cell 0
                    have d1 := HTE2.cell 1
                    have d2 := HTE2.cell 2
                    have d3 := HTE2.cell 3
                    have hbxE := HBX.out wE HBE.out
                    simp at c1 d0 d1 d2 d3
                    clear HTE2 hbE htk hr kb hne
                    generalize bt s (q + 1) = z at *
                    clear h47 hz
                    go_wp2_with fail
                    refine (HCLS.out _).mono ?_
                    rintro e wq ⟨rfl, rfl⟩
                    go_wp2_with fail
                    refine HMK2.out.mono ?_
                    rintro e wq ⟨rfl, rfl⟩
                    go_upto_region 14 with (fail)
                    rw [← hA]
                    clear hA hbx1 hce1
                    go_upto_region 34 with (fail)
                    rw [← hE]
                    clear hE hbxA
                    go_wp2_with (at_builtin; refine wpList_append_own _ rfl (.tmp 125) (.tmp 127) 29 rfl W1.heap.size 24 i0 (.agg #[.int .i8 0, .string ⟨#[]⟩, .int .i64 0, .int .i64 0]) 4 40 Tryz.underlying29 hinf hz0 hz1 hz2 rfl (by decide) _ _ _ rfl (HOE.out.alloc _) ⟨wE.heap.size, 0, none⟩ 1 1 (Tk.cells ⟨4, X, 0, q⟩) rfl rfl (G.cells_new _ _ _ _ (by simp)) (tk_one _) (by unfold maxLen; omega) (by omega) (by have := HBE.out.size; simp; omega) ?_; intro v3 w3 hown3 hg3 _q; have HB3 := Lib.hid (bl_grown (G.bl_alloc HBE.out _) (HOE.out.alloc _) hg3); have HO3 := Lib.hid hown3; clear hown3 hg3)
                    go_roundw
                    case rel => exact ⟨q + k, acc ++ [⟨4, X, 0, q⟩], g, by go_num, by omega, by simp; omega, by omega, HST, HB3.out, by rw [flatT_snoc, List.length_append]; exact HO3.out⟩
                    case measure => simp [intOf]; omega
                  --]
            · skip
              by_cases hm0 : markLen s q = 0
              · --[
                as_aux_lemma =>
                  have hr : remB s q = false := by unfold remB; rw [decide_eq_false (by rw [← HN.out]; exact hnx)]; simp
                  have hnxI : ¬ (q : Int) + 1 < n := by omega
                  rw [h47] at hce1 HCLS
                  obtain ⟨hm2, hmn⟩ := markLen_bd (s := s) (q := q) (by rw [← HN.out]; exact hlt)
                  have HMK := Lib.hid (mark_any (some ⟨b, o, none⟩) c s q w1 (HSR.out w1 HBEL1.out) HC.out (by rw [← HN.out]; exact hn) (by rw [← HN.out]; exact hlt) (HLI.out w1 HBEL1.out))
                  unfold markAt at htk
                  rw [← HN.out] at HMK hmn
                  obtain ⟨wA, hA⟩ : ∃ wA, wA = w1.setCell ⟨T, 0, none⟩ (.int .i8 4) := ⟨_, rfl⟩
                  have HTA := Lib.hid (show G.Blk wA T 24 #[.int .i8 4, .string ⟨#[]⟩, .int .i64 0, .int .i64 q] by rw [hA]; exact HT.out.put 0 _)
                  have HBA := Lib.hid (show Below wr.heap.size wr wA by rw [hA]; exact G.bl_set HBW1.out (by simp [HTE.out]) _)
                  have hbxA := HBX.out wA (G.bl_trans HBEL.out HBA.out)
                  have f0 := HT.out.frozen 0
                  have c0 := HT.out.cell 0
                  simp at c0
                  rw [if_pos hm0] at htk
                  rw [hm0] at HMK
                  have HMK2 : Hid (Calls Tryz.prog 30 #[.slice (some ⟨b, o, none⟩) n c, .int .i64 q] w1 fun e w' => e = .returned (.int .i64 0) ∧ w1 = w') := HMK
                  have HR := Lib.hid (resOf_bad (s := s) (q := q) (by rw [← HN.out]; exact hn) (HG.out.symm.trans (by rw [cf_bad hne kb hr htk]; rfl)))
                  have hwi1 := win0 (W := wA) (b := b) (o := o) (c := c) (n := n) (q := q) (by have := HC.out; have := HN.out; omega)
                  have hwi2 := conv0 (W := wA) (a := some ⟨b, o + q, none⟩) (c := c - q)
                  have hq00 : (q : Int) + 0 = q := by omega
                  clear hm0 HMK
                  obtain ⟨wE, hE⟩ : ∃ wE, wE = wA.setCell ⟨T, 1, none⟩ (.string ⟨#[]⟩) := ⟨_, rfl⟩
                  have HTE2 : G.Blk wE T 24 #[.int .i8 4, .string ⟨#[]⟩, .int .i64 0, .int .i64 q] := by rw [hE]; exact HTA.out.put 1 _
                  have hbE : Below wr.heap.size wr wE := by rw [hE]; exact G.bl_set HBA.out (by simp [HTE.out]) _
                  have HBE := Lib.hid (G.bl_trans HBEL.out hbE)
                  have HOE := Lib.hid (G.own_below HOWN.out hbE)
                  have f1 := HTA.out.frozen 1
                  have c1 := HTA.out.cell 1
                  have d0 := HTE2.cell 0
                  have d1 := HTE2.cell 1
                  have d2 := HTE2.cell 2
                  have d3 := HTE2.cell 3
                  have hbxE := HBX.out wE HBE.out
                  simp at c1 d0 d1 d2 d3
                  clear HTE2 hbE htk hr kb hne
                  clear h47
                  go_wp2_with fail
                  refine (HCLS.out _).mono ?_
                  rintro e wq ⟨rfl, rfl⟩
                  go_wp2_with fail
                  refine HMK2.out.mono ?_
                  rintro e wq ⟨rfl, rfl⟩
                  go_upto_region 14 with (fail)
                  rw [← hA]
                  clear hA hbx1 hce1
                  go_upto_region 34 with (fail)
                  rw [← hE]
                  clear hE hbxA
                  go_wp2_with fail
                  go_ret3
                  exact cutPost_mk HR.out rfl rfl (World.ownsRow_nil _ _ _ _) (G.bl_trans HB1.out (by rw [show W1.heap.size = W1.heap.size from rfl]; exact HBE.out))
                --]
              · --[
                as_aux_lemma =>
                  have hr : remB s q = false := by unfold remB; rw [decide_eq_false (by rw [← HN.out]; exact hnx)]; simp
                  have hnxI : ¬ (q : Int) + 1 < n := by omega
                  rw [h47] at hce1 HCLS
                  obtain ⟨hm2, hmn⟩ := markLen_bd (s := s) (q := q) (by rw [← HN.out]; exact hlt)
                  have HMK := Lib.hid (mark_any (some ⟨b, o, none⟩) c s q w1 (HSR.out w1 HBEL1.out) HC.out (by rw [← HN.out]; exact hn) (by rw [← HN.out]; exact hlt) (HLI.out w1 HBEL1.out))
                  unfold markAt at htk
                  rw [← HN.out] at HMK hmn
                  obtain ⟨wA, hA⟩ : ∃ wA, wA = w1.setCell ⟨T, 0, none⟩ (.int .i8 4) := ⟨_, rfl⟩
                  have HTA := Lib.hid (show G.Blk wA T 24 #[.int .i8 4, .string ⟨#[]⟩, .int .i64 0, .int .i64 q] by rw [hA]; exact HT.out.put 0 _)
                  have HBA := Lib.hid (show Below wr.heap.size wr wA by rw [hA]; exact G.bl_set HBW1.out (by simp [HTE.out]) _)
                  have hbxA := HBX.out wA (G.bl_trans HBEL.out HBA.out)
                  have f0 := HT.out.frozen 0
                  have c0 := HT.out.cell 0
                  simp at c0
                  rw [if_neg hm0] at htk
                  generalize markLen s q = k at *
                  have hkk := ne_b (show ¬ (k : Int) = 0 by omega)
                  obtain ⟨X, hX⟩ : ∃ X, X = s.extract q (q + k) := ⟨_, rfl⟩
                  have HMK2 := HMK
                  have HST := Lib.hid ((show (cutF s g (q + k)).pre (acc ++ [⟨4, X, 0, q⟩]) = (cutF s (g + 1) q).pre acc by rw [cf_ok hne kb hr htk, pre_cons, hX]).trans HG.out)
                  obtain ⟨hwi1, hwi2⟩ := win (W := wA) (b := b) (o := o) (c := c) (p := q) (k := k) (s := s) (HBY.out _ HBA.out) (by omega) HC.out (by rw [← HN.out]; exact hmn)
                  rw [← hX] at hwi2
                  rw [← HN.out] at hwi1
                  have hm1 : 0 < k := by omega
                  clear hX HMK hm0
                  obtain ⟨wE, hE⟩ : ∃ wE, wE = wA.setCell ⟨T, 1, none⟩ (.string X) := ⟨_, rfl⟩
                  have HTE2 : G.Blk wE T 24 #[.int .i8 4, .string X, .int .i64 0, .int .i64 q] := by rw [hE]; exact HTA.out.put 1 _
                  have hbE : Below wr.heap.size wr wE := by rw [hE]; exact G.bl_set HBA.out (by simp [HTE.out]) _
                  have HBE := Lib.hid (G.bl_trans HBEL.out hbE)
                  have HOE := Lib.hid (G.own_below HOWN.out hbE)
                  have f1 := HTA.out.frozen 1
                  have c1 := HTA.out.cell 1
                  have d0 := HTE2.cell 0
                  have d1 := HTE2.cell 1
                  have d2 := HTE2.cell 2
                  have d3 := HTE2.cell 3
                  have hbxE := HBX.out wE HBE.out
                  simp at c1 d0 d1 d2 d3
                  clear HTE2 hbE htk hr kb hne
                  clear h47
                  go_wp2_with fail
                  refine (HCLS.out _).mono ?_
                  rintro e wq ⟨rfl, rfl⟩
                  go_wp2_with fail
                  refine HMK2.out.mono ?_
                  rintro e wq ⟨rfl, rfl⟩
                  go_upto_region 14 with (fail)
                  rw [← hA]
                  clear hA hbx1 hce1
                  go_upto_region 34 with (fail)
                  rw [← hE]
                  clear hE hbxA
                  go_wp2_with (at_builtin; refine wpList_append_own _ rfl (.tmp 125) (.tmp 127) 29 rfl W1.heap.size 24 i0 (.agg #[.int .i8 0, .string ⟨#[]⟩, .int .i64 0, .int .i64 0]) 4 40 Tryz.underlying29 hinf hz0 hz1 hz2 rfl (by decide) _ _ _ rfl (HOE.out.alloc _) ⟨wE.heap.size, 0, none⟩ 1 1 (Tk.cells ⟨4, X, 0, q⟩) rfl rfl (G.cells_new _ _ _ _ (by simp)) (tk_one _) (by unfold maxLen; omega) (by omega) (by have := HBE.out.size; simp; omega) ?_; intro v3 w3 hown3 hg3 _q; have HB3 := Lib.hid (bl_grown (G.bl_alloc HBE.out _) (HOE.out.alloc _) hg3); have HO3 := Lib.hid hown3; clear hown3 hg3)
                  go_roundw
                  case rel => exact ⟨q + k, acc ++ [⟨4, X, 0, q⟩], g, by go_num, by omega, by simp; omega, by omega, HST, HB3.out, by rw [flatT_snoc, List.length_append]; exact HO3.out⟩
                  case measure => simp [intOf]; omega
                --]
          · skip
            by_cases hm0 : markLen s q = 0
            · --[
              as_aux_lemma =>
                have hr := not_rem h47
                have n47 := ne_b h47
                obtain ⟨hm2, hmn⟩ := markLen_bd (s := s) (q := q) (by rw [← HN.out]; exact hlt)
                have HMK := Lib.hid (mark_any (some ⟨b, o, none⟩) c s q w1 (HSR.out w1 HBEL1.out) HC.out (by rw [← HN.out]; exact hn) (by rw [← HN.out]; exact hlt) (HLI.out w1 HBEL1.out))
                unfold markAt at htk
                rw [← HN.out] at HMK hmn
                obtain ⟨wA, hA⟩ : ∃ wA, wA = w1.setCell ⟨T, 0, none⟩ (.int .i8 4) := ⟨_, rfl⟩
                have HTA := Lib.hid (show G.Blk wA T 24 #[.int .i8 4, .string ⟨#[]⟩, .int .i64 0, .int .i64 q] by rw [hA]; exact HT.out.put 0 _)
                have HBA := Lib.hid (show Below wr.heap.size wr wA by rw [hA]; exact G.bl_set HBW1.out (by simp [HTE.out]) _)
                have hbxA := HBX.out wA (G.bl_trans HBEL.out HBA.out)
                have f0 := HT.out.frozen 0
                have c0 := HT.out.cell 0
                simp at c0
                rw [if_pos hm0] at htk
                rw [hm0] at HMK
                have HMK2 : Hid (Calls Tryz.prog 30 #[.slice (some ⟨b, o, none⟩) n c, .int .i64 q] w1 fun e w' => e = .returned (.int .i64 0) ∧ w1 = w') := HMK
                have HR := Lib.hid (resOf_bad (s := s) (q := q) (by rw [← HN.out]; exact hn) (HG.out.symm.trans (by rw [cf_bad hne kb hr htk]; rfl)))
                have hwi1 := win0 (W := wA) (b := b) (o := o) (c := c) (n := n) (q := q) (by have := HC.out; have := HN.out; omega)
                have hwi2 := conv0 (W := wA) (a := some ⟨b, o + q, none⟩) (c := c - q)
                have hq00 : (q : Int) + 0 = q := by omega
                clear hm0 HMK
                obtain ⟨wE, hE⟩ : ∃ wE, wE = wA.setCell ⟨T, 1, none⟩ (.string ⟨#[]⟩) := ⟨_, rfl⟩
                have HTE2 : G.Blk wE T 24 #[.int .i8 4, .string ⟨#[]⟩, .int .i64 0, .int .i64 q] := by rw [hE]; exact HTA.out.put 1 _
                have hbE : Below wr.heap.size wr wE := by rw [hE]; exact G.bl_set HBA.out (by simp [HTE.out]) _
                have HBE := Lib.hid (G.bl_trans HBEL.out hbE)
                have HOE := Lib.hid (G.own_below HOWN.out hbE)
                have f1 := HTA.out.frozen 1
                have c1 := HTA.out.cell 1
                have d0 := HTE2.cell 0
                have d1 := HTE2.cell 1
                have d2 := HTE2.cell 2
                have d3 := HTE2.cell 3
                have hbxE := HBX.out wE HBE.out
                simp at c1 d0 d1 d2 d3
                clear HTE2 hbE htk hr kb hne
                generalize bt s q = y at *
                clear h47
                go_wp2_with fail
                refine (HCLS.out _).mono ?_
                rintro e wq ⟨rfl, rfl⟩
                go_wp2_with fail
                refine HMK2.out.mono ?_
                rintro e wq ⟨rfl, rfl⟩
                go_upto_region 14 with (fail)
                rw [← hA]
                clear hA hbx1 hce1
                go_upto_region 34 with (fail)
                rw [← hE]
                clear hE hbxA
                go_wp2_with fail
                go_ret3
                exact cutPost_mk HR.out rfl rfl (World.ownsRow_nil _ _ _ _) (G.bl_trans HB1.out (by rw [show W1.heap.size = W1.heap.size from rfl]; exact HBE.out))
              --]
            · --[
              as_aux_lemma =>
                have hr := not_rem h47
                have n47 := ne_b h47
                obtain ⟨hm2, hmn⟩ := markLen_bd (s := s) (q := q) (by rw [← HN.out]; exact hlt)
                have HMK := Lib.hid (mark_any (some ⟨b, o, none⟩) c s q w1 (HSR.out w1 HBEL1.out) HC.out (by rw [← HN.out]; exact hn) (by rw [← HN.out]; exact hlt) (HLI.out w1 HBEL1.out))
                unfold markAt at htk
                rw [← HN.out] at HMK hmn
                obtain ⟨wA, hA⟩ : ∃ wA, wA = w1.setCell ⟨T, 0, none⟩ (.int .i8 4) := ⟨_, rfl⟩
                have HTA := Lib.hid (show G.Blk wA T 24 #[.int .i8 4, .string ⟨#[]⟩, .int .i64 0, .int .i64 q] by rw [hA]; exact HT.out.put 0 _)
                have HBA := Lib.hid (show Below wr.heap.size wr wA by rw [hA]; exact G.bl_set HBW1.out (by simp [HTE.out]) _)
                have hbxA := HBX.out wA (G.bl_trans HBEL.out HBA.out)
                have f0 := HT.out.frozen 0
                have c0 := HT.out.cell 0
                simp at c0
                rw [if_neg hm0] at htk
                generalize markLen s q = k at *
                have hkk := ne_b (show ¬ (k : Int) = 0 by omega)
                obtain ⟨X, hX⟩ : ∃ X, X = s.extract q (q + k) := ⟨_, rfl⟩
                have HMK2 := HMK
                have HST := Lib.hid ((show (cutF s g (q + k)).pre (acc ++ [⟨4, X, 0, q⟩]) = (cutF s (g + 1) q).pre acc by rw [cf_ok hne kb hr htk, pre_cons, hX]).trans HG.out)
                obtain ⟨hwi1, hwi2⟩ := win (W := wA) (b := b) (o := o) (c := c) (p := q) (k := k) (s := s) (HBY.out _ HBA.out) (by omega) HC.out (by rw [← HN.out]; exact hmn)
                rw [← hX] at hwi2
                rw [← HN.out] at hwi1
                have hm1 : 0 < k := by omega
                clear hX HMK hm0
                obtain ⟨wE, hE⟩ : ∃ wE, wE = wA.setCell ⟨T, 1, none⟩ (.string X) := ⟨_, rfl⟩
                have HTE2 : G.Blk wE T 24 #[.int .i8 4, .string X, .int .i64 0, .int .i64 q] := by rw [hE]; exact HTA.out.put 1 _
                have hbE : Below wr.heap.size wr wE := by rw [hE]; exact G.bl_set HBA.out (by simp [HTE.out]) _
                have HBE := Lib.hid (G.bl_trans HBEL.out hbE)
                have HOE := Lib.hid (G.own_below HOWN.out hbE)
                have f1 := HTA.out.frozen 1
                have c1 := HTA.out.cell 1
                have d0 := HTE2.cell 0
                have d1 := HTE2.cell 1
                have d2 := HTE2.cell 2
                have d3 := HTE2.cell 3
                have hbxE := HBX.out wE HBE.out
                simp at c1 d0 d1 d2 d3
                clear HTE2 hbE htk hr kb hne
                generalize bt s q = y at *
                clear h47
                go_wp2_with fail
                refine (HCLS.out _).mono ?_
                rintro e wq ⟨rfl, rfl⟩
                go_wp2_with fail
                refine HMK2.out.mono ?_
                rintro e wq ⟨rfl, rfl⟩
                go_upto_region 14 with (fail)
                rw [← hA]
                clear hA hbx1 hce1
                go_upto_region 34 with (fail)
                rw [← hE]
                clear hE hbxA
                go_wp2_with (at_builtin; refine wpList_append_own _ rfl (.tmp 125) (.tmp 127) 29 rfl W1.heap.size 24 i0 (.agg #[.int .i8 0, .string ⟨#[]⟩, .int .i64 0, .int .i64 0]) 4 40 Tryz.underlying29 hinf hz0 hz1 hz2 rfl (by decide) _ _ _ rfl (HOE.out.alloc _) ⟨wE.heap.size, 0, none⟩ 1 1 (Tk.cells ⟨4, X, 0, q⟩) rfl rfl (G.cells_new _ _ _ _ (by simp)) (tk_one _) (by unfold maxLen; omega) (by omega) (by have := HBE.out.size; simp; omega) ?_; intro v3 w3 hown3 hg3 _q; have HB3 := Lib.hid (bl_grown (G.bl_alloc HBE.out _) (HOE.out.alloc _) hg3); have HO3 := Lib.hid hown3; clear hown3 hg3)
                go_roundw
                case rel => exact ⟨q + k, acc ++ [⟨4, X, 0, q⟩], g, by go_num, by omega, by simp; omega, by omega, HST, HB3.out, by rw [flatT_snoc, List.length_append]; exact HO3.out⟩
                case measure => simp [intOf]; omega
              --]
      · have hltI : ¬ (q : Int) < n := by omega
        obtain rfl : q = n := by omega
        have HR := Lib.hid (resOf_ok (s := s) (l := acc ++ [endTk s]) (by rw [← HN.out]; exact hn) (HG.out.symm.trans (by rw [cf_end (by have := HN.out; omega)]; rfl)))
        have HEN := Lib.hid (show endTk s = ⟨0, ⟨#[]⟩, 0, q⟩ by unfold endTk; rw [← HN.out]; rfl)
        clear hown hbel
        go_wp2_with (at_builtin; refine wpList_append_own _ rfl (.tmp 130) (.tmp 134) 29 rfl W1.heap.size 24 i0 (.agg #[.int .i8 0, .string ⟨#[]⟩, .int .i64 0, .int .i64 0]) 4 40 Tryz.underlying29 hinf hz0 hz1 hz2 rfl (by decide) _ _ _ rfl (HOWN.out.alloc _) ⟨wr.heap.size, 0, none⟩ 1 1 (Tk.cells ⟨0, ⟨#[]⟩, 0, q⟩) rfl rfl (G.cells_new _ _ _ _ (by simp)) (tk_one _) (by unfold maxLen; omega) (by omega) (by have := HBEL.out.size; simp; omega) ?_; intro v3 w3 hown3 hg3 _q; have HB3 := Lib.hid (bl_grown (G.bl_alloc HBEL.out _) (HOWN.out.alloc _) hg3); have HO3 := Lib.hid hown3; clear hown3 hg3)
        go_ret3
        exact cutPost_mk HR.out rfl rfl (by rw [HEN.out, flatT_snoc, List.length_append]; exact G.own_ge HO3.out HB1.out.size) (G.bl_trans HB1.out HB3.out)
end Go.Proofs.YtlaikgaepaiigaaGreatDoor.K

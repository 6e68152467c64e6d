/- The contract of code.All. -/
import Derived.Test.YtfldicaaaadgaaaGreatDoorCRdAny
namespace Go.Proofs.YtfldicaaaadgaaaGreatDoor.Code
open Go.RowKit
set_option linter.unusedVariables false
set_option linter.unusedSimpArgs false
def allGo (b : List Int) : Nat → Int → List Ins → List Ins × Int × Int
  | 0, _, acc => (acc, 0, 0)
  | f + 1, at_, acc =>
    if (b.length : Int) ≤ at_ then (acc, 0, 0)
    else if (readAt b at_).2 = 0 then allGo b f (at_ + sizeOf (readAt b at_).1.op) (acc ++ [(readAt b at_).1])
    else ([], (readAt b at_).2, at_)
/-- P16.3 -/
def allOf (b : List Int) : List Ins × Int × Int := allGo b (b.length + 1) 0 []
def flat (l : List Ins) : List Value := l.flatMap Ins.cells
theorem flat_length (l : List Ins) : (flat l).length = l.length * 5 := by
  induction l with
  | nil => rfl
  | cons x l ih => simp only [flat, List.flatMap_cons, List.length_append, List.length_cons] at *; rw [ih]; simp [Ins.cells]; omega
theorem flat_snoc (l : List Ins) (x : Ins) : flat (l ++ [x]) = flat l ++ x.cells := by simp [flat]
theorem readAt_ok {zs : List Int} {k : Nat} (hk : k < zs.length) (h : (readAt zs (k : Int)).2 = 0) :
    (readAt zs (k : Int)).1.op = zs.getD k 0 ∧ 1 ≤ sizeOf (zs.getD k 0) ∧ (k : Int) + sizeOf (zs.getD k 0) ≤ zs.length ∧ (readAt zs (k : Int)).1.at_ = k := by
  have hn : ¬ ((k : Int) < 0 ∨ (zs.length : Int) ≤ k) := by omega
  have hw := width_le (kindOf (zs.getD k 0))
  unfold readAt at h ⊢
  rw [if_neg hn] at h ⊢
  simp only [Int.toNat_natCast] at h ⊢
  unfold sizeOf
  by_cases h1 : kindOf (zs.getD k 0) < 0
  · rw [if_pos h1] at h; simp at h
  · rw [if_neg h1] at h ⊢
    by_cases h2 : (zs.length : Int) - k - 1 < width (kindOf (zs.getD k 0))
    · rw [if_pos h2] at h; simp at h
    · rw [if_neg h2, if_neg h1]
      refine ⟨?_, by omega, by omega, ?_⟩ <;> (repeat' split) <;> rfl
theorem readAt_op_range {zs : List Int} {k : Nat} (hz : IsBytes zs) (hk : k < zs.length) (h : (readAt zs (k : Int)).2 = 0) : 0 ≤ (readAt zs (k : Int)).1.op ∧ (readAt zs (k : Int)).1.op < 256 := by
  rw [(readAt_ok hk h).1]; exact hz k
theorem info26 : (Tryz.prog.info? 55).map (fun i => (i.zero, i.size, i.bytes)) = some (some (.agg #[.int .i64 0, .int .u8 0, .int .i64 0, .int .i64 0, .int .i64 0]), 5, 40) := by kernel_rfl
theorem allGo_step {zs : List Int} {f : Nat} {k : Nat} {acc : List Ins} (hk : k < zs.length) (h : (readAt zs (k : Int)).2 = 0) :
    allGo zs (f + 1) k acc = allGo zs f (k + sizeOf (readAt zs k).1.op) (acc ++ [(readAt zs k).1]) := by
  rw [allGo, if_neg (by omega), if_pos h]
theorem allGo_err {zs : List Int} {f : Nat} {k : Nat} {acc : List Ins} (hk : k < zs.length) (h : (readAt zs (k : Int)).2 ≠ 0) :
    allGo zs (f + 1) k acc = ([], (readAt zs k).2, (k : Int)) := by
  rw [allGo, if_neg (by omega), if_neg h]
theorem allGo_end {zs : List Int} {f : Nat} {k : Nat} {acc : List Ins} (hk : ¬ k < zs.length) : allGo zs f k acc = (acc, 0, 0) := by
  cases f with
  | zero => rfl
  | succ f => rw [allGo, if_pos (by omega)]
/-- What the loop holds. -/
def AllInv (zs : List Int) (w wr : World) (v : Value) (k : Nat) : Prop :=
  ∃ acc f, wr.ownsRow w.heap.size 55 5 v acc.length (flat acc) ∧ acc.length ≤ k ∧ zs.length - k < f ∧ allGo zs f k acc = allOf zs
def AllPost (zs : List Int) (w : World) (e : Ending) (w' : World) : Prop :=
  ∃ v, e = .returned (.tuple #[v, .int .i64 (allOf zs).2.1, .int .i64 (allOf zs).2.2]) ∧ w'.ownsRow w.heap.size 55 5 v (allOf zs).1.length (flat (allOf zs).1) ∧ Below w.heap.size w w'
set_option maxRecDepth 100000 in
set_option maxHeartbeats 1000000 in
theorem All_any (b off cap : Nat) (zs : List Int) (w : World) (hm : cap ≤ 9223372036854775807) (hm2 : zs.length * 64 ≤ 140737488351232) (hnc : zs.length ≤ cap) (hr : RdI w .u8 b off zs) (hz : IsBytes zs) :
    Calls Tryz.prog 11 #[.slice (some ⟨b, off, none⟩) zs.length cap] w (AllPost zs w) := by
  obtain ⟨i0, hi, hz0, hz1, hz2⟩ := info_parts info26
  obtain ⟨n, hn⟩ : ∃ n, n = zs.length := ⟨_, rfl⟩
  have HN := Lib.hid hn
  rw [← hn]
  rw [← hn] at hnc hm2
  clear hn
  go_enter Tryz.func11, Tryz.ntmps11
  go_wp2
  go_loopw [5, 6] (fun v i wr => ∃ k : Nat, k ≤ n ∧ i = .int .i64 k ∧ Below w.heap.size w wr ∧ AllInv zs w wr v k) (fun _ i _ => n - (intOf i).toNat)
  case atStart => exact ⟨0, Nat.zero_le _, rfl, Below.refl _ _, [], zs.length + 1, World.ownsRow_nil _ _ _ _, Nat.le_refl _, by omega, rfl⟩
  case round =>
    obtain ⟨k, hk, rfl, hbel, acc, f, hown, hacc, hf, hgo⟩ := hrel
    have hrw := hr.below hbel
    by_cases hlt : k < n
    · have hkz : k < zs.length := by rw [← HN.out]; exact hlt
      have hR := Read_any b off cap zs k wr (by omega) (by rw [← HN.out]; exact hnc) hrw hz
      have hop := fun h => readAt_op_range hz hkz h
      have hok := fun h => readAt_ok hkz h
      have hst := fun h => allGo_step (f := f - 1) (acc := acc) hkz h
      have her := fun h => allGo_err (f := f - 1) (acc := acc) hkz h
      rw [show f - 1 + 1 = f by omega, hgo] at hst her
      rw [← HN.out] at hR
      clear hrw hgo hr
      by_cases h0 : (readAt zs (k : Int)).2 = 0
      · have hst := hst h0
        have hok := hok h0
        have hop := hop h0
        have hsz : sizeOf (readAt zs (k : Int)).1.op = sizeOf (zs.getD k 0) := by rw [hok.1]
        rw [← hsz] at hok
        rw [h0] at hR
        clear her h0 hsz
        generalize readAt zs (k : Int) = r at *
        obtain ⟨⟨xa, xo, x1, x2, x3⟩, er⟩ := r
        obtain ⟨q1, hs1, hs2, q2⟩ := hok
        clear q1 q2
        simp only at hs1 hs2 hop hst
        obtain ⟨s, hs⟩ : ∃ s, s = sizeOf xo := ⟨_, rfl⟩
        rw [← hs] at hs1 hs2 hst
        have hS := fun W => Size_any xo W hop.1 hop.2
        rw [← hs] at hS
        simp only [Ins.val] at hR
        have HS := Lib.hid hS
        have HR := Lib.hid hR
        have HST := Lib.hid hst
        have hs2' : (k : Int) + s ≤ n := by rw [HN.out]; exact hs2
        clear hS hR hst hs hs2 hop
        go_wp2_with (first
          | (go_at_call 10; refine HR.out.mono ?_; rintro e w1 ⟨rfl, hb1⟩; have hown1 := Bl.own hown hb1; have hB1 := Bl.tr hbel hb1)
          | (at_builtin; refine wpList_append_own _ rfl (.tmp 23) (.tmp 25) 23 rfl w.heap.size 55 i0 (.agg #[.int .i64 0, .int .u8 0, .int .i64 0, .int .i64 0, .int .i64 0]) 5 40 Tryz.underlying23 hi hz0 hz1 hz2 rfl (by decide) _ _ _ rfl ((hown1.alloc _).alloc _) ⟨w1.heap.size + 1, 0, none⟩ 1 1 (Ins.cells ⟨xa, xo, x1, x2, x3⟩) rfl rfl (cells_new _ _ _ _ (by simp)) (Ins.cells_one _) (by unfold maxLen; omega) (by omega) (by have := hB1.size; simp; omega) ?_; intro v' w2 hown2 hg2 _q; have hx1 : w2.cell? ⟨w1.heap.size, 1, none⟩ = some (.int .u8 xo) := (hg2.cell (by simp [go_sem]) (by intro e; have := hown1.lt _ e.symm; simp at this)); have hB2 := Bl.grown (Bl.al (Bl.al hB1 _) _) ((hown1.alloc _).alloc _) hg2)
          | (go_at_call 42; refine (HS.out _).mono ?_; rintro e w3 ⟨rfl, hb3⟩))
        go_roundw
        case rel =>
          have e1 : (if 1 < s then s else 1) = s := by split <;> omega
          have e2 : ((k + s.toNat : Nat) : Int) = k + s := by omega
          have e3 := HN.out
          refine ⟨k + s.toNat, by omega, by rw [e1, e2], Bl.tr hB2 hb3, acc ++ [⟨xa, xo, x1, x2, x3⟩], f - 1, ?_, by simp; omega, by omega, by rw [e2]; exact HST.out.symm⟩
          rw [flat_snoc, List.length_append]
          exact Bl.own hown2 hb3
        case measure => simp [intOf]; split <;> omega
      · have her := her h0
        generalize readAt zs (k : Int) = r at *
        obtain ⟨⟨xa, xo, x1, x2, x3⟩, er⟩ := r
        simp only at her h0
        have h0' : (er != 0) = true := by simpa using h0
        have HER := Lib.hid her
        simp only [Ins.val] at hR
        have HR := Lib.hid hR
        clear her hR hst hok hop h0
        go_wp2_with (first | (go_at_call 10; refine HR.out.mono ?_; rintro e w1 ⟨rfl, hb1⟩))
        go_ret3
        refine ⟨.slice none 0 0, ?_, ?_, ?_⟩
        · rw [HER.out]; rfl
        · rw [HER.out]; exact World.ownsRow_nil _ _ _ _
        · exact Bl.al (Bl.tr hbel hb1) _
    · have hkn : allOf zs = (acc, 0, 0) := by rw [← hgo]; exact allGo_end (by rw [← HN.out]; exact hlt)
      have HK := Lib.hid hkn
      clear hkn hgo hrw hr
      go_wp2
      go_ret3
      refine ⟨u5, ?_, ?_, hbel⟩
      rotate_left
      · rw [HK.out]; exact hown
      · rw [HK.out]; rfl
end Go.Proofs.YtfldicaaaadgaaaGreatDoor.Code

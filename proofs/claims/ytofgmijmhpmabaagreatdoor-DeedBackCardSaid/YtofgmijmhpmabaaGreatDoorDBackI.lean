/- The iterator of slices.Backward over events: its contract. -/
import Derived.Test.YtofgmijmhpmabaaGreatDoorDEvAt
import Derived.Test.YtofgmijmhpmabaaGreatDoorDTrace
import Derived.Test.YtofgmijmhpmabaaGreatDoorRange
import Derived.LoopNIn
import Derived.LoopIn
namespace Go.Proofs.YtofgmijmhpmabaaGreatDoor.D
open Go Go.RowKit
set_option linter.unusedVariables false
set_option linter.unusedSimpArgs false
attribute [local go_sem] Oper.semAt_some
/-- The places that have come when r are still to come. -/
def dnr (N r : Nat) : List Nat := (List.range' r (N - r)).reverse
theorem dnr_all (N : Nat) : dnr N N = [] := by simp [dnr]
theorem dnr_len (N r : Nat) : (dnr N r).length = N - r := by simp [dnr]
theorem dnr_next {N k : Nat} (h : k < N) : dnr N k = dnr N (k + 1) ++ [k] := by
  unfold dnr
  rw [show N - k = (N - (k + 1)) + 1 by omega, List.range'_succ, List.reverse_cons]
/-- What is handed to a round. -/
def encE (L : List (EV × Ev)) (k : Nat) : Array Value := #[.int .i64 (k : Int), .agg ((L.getD k zeroP).1.arr (L.getD k zeroP).2)]
theorem exec_load_at2 {P : Program} {o : Oper} {f : Operand → Value} {w : World} (ty : TypeId) (x : Operand) (ho : o.op = .load ty x) (g off : Nat) (hx : f x = .pointer (some ⟨g, off, none⟩)) (cs : Array Value) (h : (loadVar ty ⟨g, off, none⟩).run P w = .ok (.agg cs) w) : (execOp f o).run P w = .ok (.value (.agg cs)) w := by
  unfold execOp
  simp only [ho, hx, Instr.loadAt, Instr.sureAddr, Sem.run_bind, Sem.run_pure, Result.andThen_ok, h]
theorem listIn_load_run {n : Nat} {P : Program} {ops : Array Oper} {Q : Exit → Act → World → Prop} {a : Act} {w : World} {o : Oper} {rest : List Oper} (hw : Region.wanted o (yielded ops a.tmps) = true) (ty : TypeId) (x : Operand) (ho : o.op = .load ty x)
    (b off : Nat) (hx : a.eval x = .pointer (some ⟨b, off, none⟩)) (cs : Array Value) (h : (loadVar ty ⟨b, off, none⟩).run P w = .ok (.agg cs) w) (k : wpListIn Fence.wide n P ops Q rest (a.put o.dst (.agg cs)) w) : wpListIn Fence.wide n P ops Q (o :: rest) a w := by
  unfold wpListIn
  rw [if_pos hw]
  refine ⟨fun _ _ => trivial, ?_⟩
  rw [show Fence.wide.round = none from rfl, Oper.semAt_none, exec_load_at2 ty x ho b off hx cs h]
  exact k
/-- What lay below n₀ lies as it lay, and so does the iterator's box. -/
structure KpB (n₀ Bs : Nat) (W W' : World) : Prop where
  below : Below n₀ W W'
  bs : W'.heap[Bs]? = W.heap[Bs]?
theorem KpB.refl (n₀ Bs : Nat) (W : World) : KpB n₀ Bs W W := ⟨Below.refl _ _, rfl⟩
theorem KpB.trans {n₀ Bs : Nat} {A B C : World} (h : KpB n₀ Bs A B) (k : KpB n₀ Bs B C) : KpB n₀ Bs A C := ⟨h.below.trans k.below, k.bs.trans h.bs⟩
theorem KpB.put {n₀ Bs : Nat} {w : World} (hn : n₀ ≤ w.heap.size) (hb : Bs < w.heap.size) (W : World) (l : Nat) (o o' : Obj) (hl : w.heap.size ≤ l) (h : W.heap[l]? = some o) (h1 : o.isCells = false) (h2 : o.isWalk = false) : KpB n₀ Bs W (W.putObj l o') :=
  ⟨belowK_b hn W l o o' hl h h1 h2, World.putObj_heap_other (by omega)⟩
set_option maxRecDepth 100000 in
set_option maxHeartbeats 4000000 in
theorem backward1_in (l Bs n₀ N c : Nat) (A : Option Addr) (L : List (EV × Ev)) (B : World) (hN : N ≤ 33554432) (hBs : Bs < B.heap.size) (hl : RdEvs B A N L) (hlow : ∀ b off, A = some ⟨b, off, none⟩ → 0 < N → b < n₀) (hc : B.cell? ⟨Bs, 0, none⟩ = some (.slice A N c)) (J Jx : List Nat → World → Prop)
    (hY : ∀ pre x W, J pre W → pre.length < N → YieldAt Fence.wide 1 Tryz.prog l (encE L x) W fun e W' =>
      (e = .returned (.bool true) ∧ J (pre ++ [x]) W' ∧ KpB n₀ Bs W W') ∨ (e = .returned (.bool false) ∧ Jx (pre ++ [x]) W'))
    (W : World) (hW : Below B.heap.size B W) (h0 : J [] W) :
    CallsIn Fence.wide 2 Tryz.prog 139 #[.func (.yield l) #[] #[], .pointer (some ⟨Bs, 0, none⟩)] W fun e W' => (∃ v, e = .returned v) ∧
      ((∃ ys, ys = dnr N 0 ∧ J ys W') ∨ (∃ pre, (∃ k, k < N ∧ pre = dnr N k) ∧ Jx pre W')) := by
  refine callsIn_of_wp Tryz.func139 rfl trivial ?_ rfl
  simp only [Tryz.ntmps139, List.size_toArray, List.length_cons, List.length_nil, Nat.reduceAdd, Nat.reduceSub, Array.replicate_succ, Array.replicate_zero, List.push_toArray, List.append_toArray, List.nil_append, List.cons_append]
  have HL := Lib.hid hl
  have HW := Lib.hid hW
  have HLO := Lib.hid hlow
  have HC := Lib.hid hc
  have cW := (hW.cell (p := ⟨Bs, 0, none⟩) hBs).trans hc
  clear hl hW hlow hc
  gi_wp2
  gi_loopw [3] (fun i wr => ∃ r : Nat, r ≤ N ∧ i = .int .i64 ((r : Int) - 1) ∧ J (dnr N r) wr ∧ KpB n₀ Bs W wr) (fun i _ => (intOf i + 1).toNat)
  case atStart => exact ⟨N, Nat.le_refl _, by go_num, by rw [dnr_all]; exact h0, KpB.refl _ _ _⟩
  case round =>
    obtain ⟨r, hr, rfl, hJs, hnx⟩ := hrel
    have cr : wr.cell? ⟨Bs, 0, none⟩ = some (.slice A N c) := (World.cell?_of_block (a := ⟨Bs, 0, none⟩) hnx.bs).trans cW
    have HNX := Lib.hid hnx
    clear hnx
    cases r with
    | succ k =>
      have hlt : k < N := by omega
      have hkI : (k : Int) < N := by omega
      have hk0 : (0 : Int) ≤ k := by omega
      rw [show (((k + 1 : Nat) : Int) - 1) = (k : Int) by omega]
      have HLr := Lib.hid (show ∃ b off, A = some ⟨b, off, none⟩ ∧ (loadVar 30 ⟨b, off + k * 12, none⟩).run Tryz.prog wr = .ok (.agg ((L.getD k zeroP).1.arr (L.getD k zeroP).2)) wr from by
        obtain ⟨b, off, hA, hbs, _, _, hcs⟩ := ev_whole HL.out hlt
        obtain ⟨fs, hfs⟩ := undEv
        exact ⟨b, off, hA, run_loadVar_at wr b _ _ _ _ (fun j v hv => ((HNX.out.below.cell (p := ⟨b, off + k * 12 + j, none⟩) (HLO.out b off hA (by omega))).trans (HW.out.cell (p := ⟨b, off + k * 12 + j, none⟩) hbs)).trans (hcs j v hv)) hfs rfl sizeEv⟩)
      obtain ⟨b, off, hA, hrd⟩ := HLr.out
      subst hA
      obtain ⟨fn, tmps, assign, body, hy, hR⟩ := hY _ k wr hJs (by rw [dnr_len]; omega)
      unfold encE at hy
      obtain ⟨ce, hce⟩ : ∃ ce, ce = (L.getD k zeroP).1.arr (L.getD k zeroP).2 := ⟨_, rfl⟩
      rw [← hce] at hy hrd
      have HRD := Lib.hid hrd
      clear hce hrd
      gi_wp2_with (refine listIn_load_run (by rfl) 30 _ rfl b (off + k * 12) rfl ce HRD.out ?_)
      refine hR.mono ?_
      rintro e W3 (⟨rfl, hJ3, hk3⟩ | ⟨rfl, hJx3⟩)
      · gi_wp2
        go_roundw
        case rel => exact ⟨k, by omega, by go_num, by rw [dnr_next hlt]; exact hJ3, HNX.out.trans hk3⟩
        case measure => (simp [intOf]; try omega)
      · gi_wp2
        refine bodyPost_ret (results_none rfl _ _ _) rfl ?_
        exact ⟨⟨_, rfl⟩, .inr ⟨_, ⟨k, hlt, (dnr_next hlt).symm⟩, hJx3⟩⟩
    | zero =>
      rw [show (((0 : Nat) : Int) - 1) = -1 by omega]
      gi_wp2
      go_end0
      exact ⟨⟨_, rfl⟩, .inl ⟨_, rfl, hJs⟩⟩
end Go.Proofs.YtofgmijmhpmabaaGreatDoor.D

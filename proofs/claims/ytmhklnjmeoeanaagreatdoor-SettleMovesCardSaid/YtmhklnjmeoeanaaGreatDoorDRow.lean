/- The rows of a state in a variable: how they read, what is written to them. -/
import Derived.Shelf.Slices.Turned
import Derived.Ground.Names2Prog
import Derived.Shelf.Slices.Delete
import Derived.Shelf.Slices.Cells
import Derived.Shelf.Slices.Empties
import Derived.Test.YtmhklnjmeoeanaaGreatDoorProg
import Derived.Test.YtmhklnjmeoeanaaGreatDoorDTurn
import Derived.Shelf.Spec.SlicesInsertGrow
import Derived.Deep.RegionHeld3
namespace Go.Proofs
open Go.Shelf Go.RowKit Go.Sort Go.Lib
def Tryz.lays108_ren : Go.Shelf.Ren := ⟨fun | 108 => 104 | n => n, fun | 28 => 35 | 3 => 3 | 0 => 0 | 4 => 4 | n => n, fun | n => n⟩
theorem Tryz.lays108 : Go.Proofs.Lays.n108 Tryz.prog Tryz.lays108_ren := {
  mixed := by kernel_rfl
  f108 := Tryz.func104.trans (congrArg some (by kernel_rfl))
  t0 := Tryz.underlying0
  a0 := Tryz.isAgg0
  z0 := Tryz.sizeOf0
  v0 := Tryz.zeroValue0
  t3 := Tryz.underlying3
  a3 := Tryz.isAgg3
  z3 := Tryz.sizeOf3
  v3 := Tryz.zeroValue3
  t4 := Tryz.underlying4
  a4 := Tryz.isAgg4
  z4 := Tryz.sizeOf4
  v4 := Tryz.zeroValue4
  t28 := Tryz.underlying35
  a28 := Tryz.isAgg35
  z28 := Tryz.sizeOf35
  v28 := Tryz.zeroValue35 }
theorem Tryz.slices_Index_int (b off n c : Nat) (zs : List Int) (x : Int) (w : World) (hz : n ≤ zs.length) (hbig : n ≤ 9223372036854775807) (hc : ∀ j, j < zs.length → w.cell? ⟨b, off + j, none⟩ = some (.int .i64 (zs.getD j 0))) :
    Calls Tryz.prog 104 #[.slice (some ⟨b, off, none⟩) n c, .int .i64 x] w fun e w' => e = .returned (.int .i64 (Lib.idxOf (zs.take n) x)) ∧ w' = w := Any.slices_Index_int Tryz.lays108 b off n c zs x w hz hbig hc
theorem Tryz.slices_Index_int_empty (a : Option Addr) (c : Nat) (x : Int) (w : World) :
    Calls Tryz.prog 104 #[.slice a 0 c, .int .i64 x] w fun e w' => e = .returned (.int .i64 (Lib.idxOf [] x)) ∧ w' = w := Any.slices_Index_int_empty Tryz.lays108 a c x w
def Tryz.laysNm223_ren : Go.Shelf.Ren := ⟨fun | 23 => 160 | n => n, fun | 22 => 35 | 3 => 3 | 4 => 4 | 0 => 0 | n => n, fun | n => n⟩
theorem Tryz.laysNm223 : Go.Proofs.Lays2.n23 Tryz.prog Tryz.laysNm223_ren := {
  mixed := by kernel_rfl
  f23 := Tryz.func160.trans (congrArg some (by kernel_rfl))
  t0 := Tryz.underlying0
  a0 := Tryz.isAgg0
  z0 := Tryz.sizeOf0
  v0 := Tryz.zeroValue0
  t3 := Tryz.underlying3
  a3 := Tryz.isAgg3
  z3 := Tryz.sizeOf3
  v3 := Tryz.zeroValue3
  t4 := Tryz.underlying4
  a4 := Tryz.isAgg4
  z4 := Tryz.sizeOf4
  v4 := Tryz.zeroValue4
  t22 := Tryz.underlying35
  a22 := Tryz.isAgg35
  z22 := Tryz.sizeOf35
  v22 := Tryz.zeroValue35
  i3 := by kernel_rfl }
theorem Tryz.slices_Delete_int_cells (b off n c i j : Nat) (zs : List Int) (w : World) (hz : n ≤ zs.length) (hcap : n ≤ c) (hm : c ≤ 9223372036854775807) (hij : i ≤ j) (hj : j ≤ n) (hc : ∀ j, j < zs.length → w.cell? ⟨b, off + j, none⟩ = some (.int .i64 (zs.getD j 0))) (hf : ∀ j, j < n → w.frozen? ⟨b, off + j, none⟩ = false) :
    Calls Tryz.prog 160 #[.slice (some ⟨b, off, none⟩) n c, .int .i64 i, .int .i64 j] w fun e w' => e = .returned (.slice (some ⟨b, off, none⟩) (n - (j - i)) c) ∧ ∃ q, w' = (w.drewN q).setCells b off (((zs.take n).take i ++ (zs.take n).drop j ++ List.replicate (j - i) 0).map (Value.int .i64)) := Any.slices_Delete_int_cells Tryz.laysNm223 b off n c i j zs w hz hcap hm hij hj hc hf
end Go.Proofs
namespace Go.Proofs.YtmhklnjmeoeanaaGreatDoor.D
open Go Go.RowKit
set_option linter.unusedVariables false
set_option linter.unusedSimpArgs false
def insRen : Go.Shelf.Ren := ⟨fun | 21 => 161 | 27 => 171 | 28 => 172 | 35 => 179 | 39 => 182 | n => n, fun | 22 => 35 | 3 => 3 | 4 => 4 | 0 => 0 | n => n, fun | n => n⟩
theorem insLays : Go.Proofs.Lays2.n21 Tryz.prog insRen := {
  mixed := by kernel_rfl
  f21 := Tryz.func161.trans (congrArg some (by kernel_rfl))
  f27 := Tryz.func171.trans (congrArg some (by kernel_rfl))
  f28 := Tryz.func172.trans (congrArg some (by kernel_rfl))
  f35 := Tryz.func179.trans (congrArg some (by kernel_rfl))
  f39 := Tryz.func182.trans (congrArg some (by kernel_rfl))
  t0 := Tryz.underlying0
  a0 := Tryz.isAgg0
  z0 := Tryz.sizeOf0
  v0 := Tryz.zeroValue0
  t3 := Tryz.underlying3
  a3 := Tryz.isAgg3
  z3 := Tryz.sizeOf3
  v3 := Tryz.zeroValue3
  t4 := Tryz.underlying4
  a4 := Tryz.isAgg4
  z4 := Tryz.sizeOf4
  v4 := Tryz.zeroValue4
  t22 := Tryz.underlying35
  a22 := Tryz.isAgg35
  z22 := Tryz.sizeOf35
  v22 := Tryz.zeroValue35
  i3 := by kernel_rfl }
theorem own_setC {base : Nat} {e : TypeId} {sz g n cap : Nat} : ∀ (us : List Value) {w : World} {xs : List Value} {p : Nat}, w.ownsRow base e sz (.slice (some ⟨g, 0, none⟩) n cap) n xs → p + us.length ≤ xs.length →
    (w.setCells g p us).ownsRow base e sz (.slice (some ⟨g, 0, none⟩) n cap) n (xs.take p ++ us ++ xs.drop (p + us.length)) ∧ w.grownBy (w.setCells g p us) (some g)
  | [], w, xs, p, h, hp => by
    refine ⟨?_, ⟨rfl, rfl, rfl, Nat.le_refl _, fun _ _ _ => rfl⟩⟩
    simp only [World.setCells, List.append_nil, List.length_nil, Nat.add_zero, List.take_append_drop]
    exact h
  | u :: us, w, xs, p, h, hp => by
    have hst := h.stored p u
    simp only [List.length_cons] at hp
    have ih := own_setC us (p := p + 1) hst.1 (by rw [List.length_set]; omega)
    rw [G.splice_cons (by omega)] at ih
    exact ⟨ih.1, G.grown_trans hst.2 ih.2⟩
theorem own_more {w : World} {base e g n cap : Nat} {xs : List Value} (h : w.ownsRow base e 1 (.slice (some ⟨g, 0, none⟩) n cap) n xs) (hc : n < cap) : ∃ u, w.ownsRow base e 1 (.slice (some ⟨g, 0, none⟩) (n + 1) cap) (n + 1) (xs ++ [u]) := by
  rcases h.2 with ⟨hv, _⟩ | ⟨g', cap', cur, hv, hb, hg, hnc, hcm, hcs, ht⟩
  · cases hv
  · simp only [Value.slice.injEq, Option.some.injEq, Addr.mk.injEq, and_true, true_and] at hv
    obtain ⟨rfl, rfl⟩ := hv
    have hl : n < cur.toList.length := by rw [Array.length_toList, hcs]; omega
    rw [Nat.mul_one] at ht
    refine ⟨cur.toList[n], by have := h.1; simp; omega, .inr ⟨g, cap, cur, rfl, hb, hg, hc, hcm, hcs, ?_⟩⟩
    rw [Nat.mul_one, List.take_succ_eq_append_getElem hl, ht]
theorem own_less {w : World} {base e g n cap m : Nat} {xs : List Value} (h : w.ownsRow base e 1 (.slice (some ⟨g, 0, none⟩) n cap) n xs) (hm : m ≤ n) : w.ownsRow base e 1 (.slice (some ⟨g, 0, none⟩) m cap) m (xs.take m) := by
  have hx := h.1
  rcases h.2 with ⟨hv, _⟩ | ⟨g', cap', cur, hv, hb, hg, hnc, hcm, hcs, ht⟩
  · cases hv
  · simp only [Value.slice.injEq, Option.some.injEq, Addr.mk.injEq, and_true, true_and] at hv
    obtain ⟨rfl, rfl⟩ := hv
    refine ⟨by rw [List.length_take]; omega, .inr ⟨g, cap, cur, rfl, hb, hg, by omega, hcm, hcs, ?_⟩⟩
    rw [← ht, List.take_take]
    congr 1
    omega
theorem own_cells {w : World} {base e g n cap : Nat} {xs : List Value} (h : w.ownsRow base e 1 (.slice (some ⟨g, 0, none⟩) n cap) n xs) {j : Nat} {v : Value} (hj : xs[j]? = some v) : w.cell? ⟨g, j, none⟩ = some v := by
  have h1 := (List.getElem?_eq_some_iff.1 hj).1
  rw [h.cellAt j (by have := h.1; omega), hj]
theorem grown_drewN {w w' : World} {row : Option Nat} {q : Nat} (h : (w.drewN q).grownBy w' row) : w.grownBy w' row := ⟨h.os, h.tape, h.output, h.size, h.block⟩
theorem grown_drew {w w' : World} {row : Option Nat} (h : w.drew.grownBy w' row) : w.grownBy w' row := ⟨h.os, h.tape, h.output, h.size, h.block⟩
def DelPost (l : List Int) (i : Nat) (v : Value) (base : Nat) (w : World) (e : Ending) (w' : World) : Prop :=
  ∃ v', e = .returned v' ∧ w'.ownsRow base 3 1 v' (l.length - 1) (i64s (l.eraseIdx i)) ∧ w.grownBy w' v.ownBlock ∧ v'.ownBlock = v.ownBlock
theorem delete_own {w : World} {base : Nat} {v : Value} {l : List Int} {i : Nat} (h : w.ownsRow base 3 1 v l.length (i64s l)) (hi : i < l.length) (hm : l.length ≤ 33554432) :
    Calls Tryz.prog 160 #[v, .int .i64 (i : Int), .int .i64 ((i : Int) + 1)] w (DelPost l i v base w) := by
  rcases h.2 with ⟨_, h0⟩ | ⟨g, cap, cur, rfl, hb, hg, hnc, hcm, hcs, ht⟩
  · omega
  · unfold maxLen at hcm
    have hc : ∀ j, j < l.length → w.cell? ⟨g, 0 + j, none⟩ = some (.int .i64 (l.getD j 0)) := fun j hj => by
      rw [Nat.zero_add]
      refine own_cells h ?_
      unfold i64s
      rw [List.getElem?_map, List.getElem?_eq_getElem hj, getD_lt hj]
      rfl
    have hf : ∀ j, j < l.length → w.frozen? ⟨g, 0 + j, none⟩ = false := fun j hj => by rw [Nat.zero_add]; exact h.frozenAt j
    have hcall := Tryz.slices_Delete_int_cells g 0 l.length cap i (i + 1) l w (Nat.le_refl _) hnc hcm (by omega) (by omega) hc hf
    rw [show ((i + 1 : Nat) : Int) = (i : Int) + 1 from by omega] at hcall
    refine hcall.mono fun e w' he => ?_
    obtain ⟨he, q, hw⟩ := he
    have e1 : l.length - (i + 1 - i) = l.length - 1 := by omega
    rw [e1] at he
    have hl1 : (l.take l.length) = l := List.take_length
    rw [hl1, show i + 1 - i = 1 by omega] at hw
    have ho : (w.drewN q).ownsRow base 3 1 (.slice (some ⟨g, 0, none⟩) l.length cap) l.length (i64s l) := h
    obtain ⟨vals, hvals⟩ : ∃ vals, vals = (l.take i ++ l.drop (i + 1) ++ List.replicate 1 0).map (Value.int .i64) := ⟨_, rfl⟩
    rw [← hvals] at hw
    have hvl : vals.length = l.length := by rw [hvals]; simp; omega
    have hs := own_setC vals (p := 0) ho (by rw [i64s_length, hvl]; omega)
    rw [List.take_zero, List.nil_append, List.drop_eq_nil_of_le (by rw [i64s_length]; omega), List.append_nil] at hs
    have hle := own_less hs.1 (m := l.length - 1) (by omega)
    refine ⟨_, he, ?_, by rw [hw]; exact grown_drewN hs.2, rfl⟩
    rw [hw]
    have e2 : vals.take (l.length - 1) = i64s (l.eraseIdx i) := by
      rw [hvals, List.eraseIdx_eq_take_drop_succ, i64s, ← List.map_take]
      congr 1
      rw [List.take_append_of_le_length (by simp; omega), List.take_of_length_le (by simp; omega)]
    rw [e2] at hle
    exact hle
def InsPost (l : List Int) (i : Nat) (c : Int) (v : Value) (base : Nat) (w : World) (e : Ending) (w' : World) : Prop :=
  ∃ v', e = .returned v' ∧ w'.ownsRow base 3 1 v' (l.length + 1) (i64s (l.insertIdx i c)) ∧ w.grownBy w' v.ownBlock ∧ (∀ g, v'.ownBlock = some g → v.ownBlock = some g ∨ w.heap.size ≤ g)
theorem ins_list (c : Int) : ∀ (l : List Int) (i : Nat), i ≤ l.length → l.insertIdx i c = l.take i ++ c :: l.drop i
  | l, 0, _ => by simp
  | a :: l, i + 1, h => by
    rw [List.insertIdx_succ_cons, ins_list c l i (by simp at h; omega)]
    rfl
theorem ins_shift {α : Type} (xs : List α) (u c : α) {i : Nat} (hi : i < xs.length) :
    ((xs ++ [u]).take (i + 1) ++ xs.drop i ++ (xs ++ [u]).drop (i + 1 + (xs.drop i).length)).take i ++ [c] ++ ((xs ++ [u]).take (i + 1) ++ xs.drop i ++ (xs ++ [u]).drop (i + 1 + (xs.drop i).length)).drop (i + 1) = xs.take i ++ c :: xs.drop i := by
  have a1 : ((xs ++ [u]).take (i + 1)).length = i + 1 := by rw [List.length_take]; simp; omega
  have a2 : (xs ++ [u]).drop (i + 1 + (xs.drop i).length) = [] := List.drop_eq_nil_of_le (by simp; omega)
  have a3 : ((xs ++ [u]).take (i + 1)).take i = xs.take i := by
    rw [List.take_take, show min i (i + 1) = i by omega, List.take_append_of_le_length (by omega)]
  rw [a2, List.append_nil, List.drop_left' a1, List.take_append_of_le_length (l₁ := (xs ++ [u]).take (i + 1)) (by omega), a3, List.append_assoc]
  rfl
theorem ins_grow {α : Type} (xs Z : List α) (c : α) {i : Nat} (hi : i ≤ xs.length) (hZ : Z.length = xs.length + 1 - i) :
    ((xs.take i ++ Z).take i ++ [c] ++ (xs.take i ++ Z).drop (i + 1)).take (i + 1) ++ xs.drop i ++ ((xs.take i ++ Z).take i ++ [c] ++ (xs.take i ++ Z).drop (i + 1)).drop (i + 1 + (xs.drop i).length) = xs.take i ++ c :: xs.drop i := by
  have hti : (xs.take i).length = i := by rw [List.length_take]; omega
  rw [List.take_left' hti]
  have a1 : (xs.take i ++ [c]).length = i + 1 := by rw [List.length_append, hti]; rfl
  have a2 : ((xs.take i ++ Z).drop (i + 1)).length = xs.length - i := by rw [List.length_drop, List.length_append, hti, hZ]; omega
  have a4 : (xs.take i ++ [c] ++ (xs.take i ++ Z).drop (i + 1)).drop (i + 1 + (xs.drop i).length) = [] := List.drop_eq_nil_of_le (by rw [List.length_append, a1, a2, List.length_drop]; omega)
  rw [List.take_left' a1, a4, List.append_nil, List.append_assoc]
  rfl
theorem i64s_one (l : List Int) : ∀ v ∈ i64s l, v.oneCell' = true := by
  intro v hv
  obtain ⟨z, _, rfl⟩ := List.mem_map.1 hv
  rfl
theorem blk_frozen {w : World} {g : Nat} {t : TypeId} {cs : Array Value} (h : G.Blk w g t cs) (i : Nat) : w.frozen? ⟨g, i, none⟩ = false := h.frozen i
theorem insert_own {w : World} {base vb : Nat} {v : Value} {l : List Int} {i : Nat} {c : Int} (h : w.ownsRow base 3 1 v l.length (i64s l)) (hi : i ≤ l.length) (hm : l.length ≤ 33554432) (hbw : base ≤ w.heap.size)
    (hvb : G.Blk w vb 3 #[.int .i64 c]) (hne : v.ownBlock ≠ some vb) :
    Calls Tryz.prog 161 #[v, .int .i64 (i : Int), .slice (some ⟨vb, 0, none⟩) 1 1] w (InsPost l i c v base w) := by
  have hvs : ∀ j u, [Value.int .i64 c][j]? = some u → w.cell? ⟨vb, 0 + j, none⟩ = some u := fun j u hj => by
    rw [Nat.zero_add, hvb.cell]
    simpa using hj
  have h1v : ∀ u ∈ [Value.int .i64 c], u.oneCell' = true := fun u hu => by rw [List.mem_singleton.1 hu]; rfl
  have hgrow : ∀ cap, (w.drew.alloc (.cells ((i64s l ++ [Value.int .i64 c]).toArray ++ Builtin.zeroCells (Value.int .i64 0).cells (grownCap w (l.length + 1) cap 3 - (l.length + 1))) 3)).ownsRow base 3 1 (.slice (some ⟨w.heap.size, 0, none⟩) (l.length + 1) (grownCap w (l.length + 1) cap 3)) (l.length + 1) (i64s l ++ [.int .i64 c]) := fun cap => by
    have hge := grownCap_ge w (l.length + 1) cap 3
    have hcm := grownCap_le_maxLen w (l.length + 1) cap 3 (by unfold maxLen; omega)
    have hlen : (i64s l ++ [Value.int .i64 c]).length = l.length + 1 := by simp [i64s]
    refine ⟨by rw [hlen, Nat.mul_one], .inr ⟨w.heap.size, _, _, rfl, hbw, heap_alloc_new w.drew _, hge, hcm, ?_, ?_⟩⟩
    · rw [Array.size_append, List.size_toArray, hlen, size_zeroCells]
      simp [Value.cells]
      omega
    · rw [Array.toList_append, Nat.mul_one, List.take_append_of_le_length (by simp [i64s]), List.take_of_length_le (by simp [i64s])]
  have hnew : ∀ (w' : World), w'.heap.size = w.heap.size + 1 → (∀ g, Value.ownBlock (.slice (some ⟨w.heap.size, 0, none⟩) 0 0) = some g → w.heap.size ≤ g) := fun w' _ g hg => by
    simp only [Value.ownBlock, Option.some.injEq] at hg
    omega
  rcases h.2 with ⟨rfl, h0⟩ | ⟨g, cap, cur, rfl, hb, hg, hnc, hcm, hcs, ht⟩
  · obtain rfl : l = [] := List.eq_nil_of_length_eq_zero h0
    obtain rfl : i = 0 := by simpa using hi
    have key := Any2.slices_Insert_int_end_grow insLays none 0 0 vb 0 1 1 [] [.int .i64 c] w (by decide) (Nat.le_refl _) (by decide) (by decide) rfl rfl (fun _ => rfl) (fun a ha => by cases ha) hvs h1v
    refine key.mono fun e w' he => ?_
    obtain ⟨he, hw⟩ := he
    refine ⟨_, he, ?_, ?_, fun g hg => .inr ?_⟩
    · rw [hw]
      exact hgrow 0
    · rw [hw]
      exact grown_drew (World.grownBy_alloc _ _ _)
    · simp only [Value.ownBlock, Option.some.injEq] at hg
      omega
  · have hne2 : vb ≠ g := fun e => hne (by rw [e]; rfl)
    have hcs1 : ∀ j u, (i64s l)[j]? = some u → w.cell? ⟨g, 0 + j, none⟩ = some u := fun j u hj => by
      rw [Nat.zero_add]
      exact own_cells h hj
    have hcl : (i64s l).length = l.length := i64s_length l
    unfold maxLen at hcm
    by_cases hroom : l.length + 1 ≤ cap
    · obtain ⟨u, hmore⟩ := own_more h (by omega)
      have hsp : ∀ j, j < l.length + 1 → (w.cell? ⟨g, 0 + j, none⟩).isSome = true := fun j hj => by
        have hj2 : j < (i64s l ++ [u]).length := by rw [List.length_append, hcl]; simpa using hj
        rw [Nat.zero_add, own_cells hmore (List.getElem?_eq_getElem hj2)]
        rfl
      by_cases hie : i = l.length
      · subst hie
        have key := Any2.slices_Insert_int_end_room insLays g 0 l.length cap vb 0 1 1 [.int .i64 c] w (by decide) hroom hcm rfl (fun j hj => by
          have := hsp l.length (by omega)
          obtain rfl : j = 0 := by omega
          simpa using this) (fun j hj => h.frozenAt _) hvs h1v
        refine key.mono fun e w' he => ?_
        obtain ⟨he, hw⟩ := he
        have hs := own_setC [Value.int .i64 c] (p := 0 + l.length) hmore (by simp [hcl])
        refine ⟨_, he, ?_, by rw [hw]; exact hs.2, fun g hg => .inl hg⟩
        rw [hw]
        have e2 : (i64s l ++ [u]).take (0 + l.length) ++ [Value.int .i64 c] ++ (i64s l ++ [u]).drop (0 + l.length + [Value.int .i64 c].length) = i64s (l.insertIdx l.length c) := by
          rw [Nat.zero_add, List.take_left' hcl, List.drop_eq_nil_of_le (by simp [hcl]), ins_list c l _ (Nat.le_refl _)]
          simp [i64s]
        rw [e2] at hs
        exact hs.1
      · have hil : i < l.length := by omega
        have key := Any2.slices_Insert_int_shift insLays g 0 l.length cap i vb 0 1 1 (i64s l) [.int .i64 c] w hil (by decide) hroom hcm hne2 hcl rfl hcs1 hsp (fun j hj => h.frozenAt _) hvs (i64s_one l) h1v 3 3 1 cap
          (by unfold G.Blk at hvb; simp [World.shape?, hvb]) (by simp [World.shape?, hg, hcs]) (by omega) (hvb.frozen _) (hvb.frozen _)
        refine key.mono fun e w' he => ?_
        obtain ⟨he, hw⟩ := he
        have hd : w.drew.ownsRow base 3 1 (.slice (some ⟨g, 0, none⟩) (l.length + 1) cap) (l.length + 1) (i64s l ++ [u]) := hmore
        have hs1 := own_setC ((i64s l).drop i) (p := 0 + (i + 1)) hd (by rw [List.length_drop, List.length_append, hcl]; simp; omega)
        have hs2 := own_setC [Value.int .i64 c] (p := 0 + i) hs1.1 (by simp [hcl]; omega)
        refine ⟨_, he, ?_, by rw [hw]; exact grown_drew (G.grown_trans hs1.2 hs2.2), fun g hg => .inl hg⟩
        rw [hw]
        have e2 : ((i64s l ++ [u]).take (0 + (i + 1)) ++ (i64s l).drop i ++ (i64s l ++ [u]).drop (0 + (i + 1) + ((i64s l).drop i).length)).take (0 + i) ++ [Value.int .i64 c] ++ ((i64s l ++ [u]).take (0 + (i + 1)) ++ (i64s l).drop i ++ (i64s l ++ [u]).drop (0 + (i + 1) + ((i64s l).drop i).length)).drop (0 + i + [Value.int .i64 c].length) = i64s (l.insertIdx i c) := by
          rw [Nat.zero_add, Nat.zero_add]
          have := ins_shift (i64s l) u (Value.int .i64 c) (i := i) (by rw [hcl]; exact hil)
          rw [show i + [Value.int .i64 c].length = i + 1 from rfl, this, ins_list c l i hi]
          simp [i64s]
        rw [e2] at hs2
        exact hs2.1
    · have hroom2 : cap < l.length + 1 := by omega
      by_cases hie : i = l.length
      · subst hie
        have key := Any2.slices_Insert_int_end_grow insLays (some ⟨g, 0, none⟩) l.length cap vb 0 1 1 (i64s l) [.int .i64 c] w (by decide) hnc hroom2 (by omega) hcl rfl (fun h => by cases h) (fun a ha j u hj => by
          obtain rfl := Option.some.inj ha
          rw [Addr.add_lit]
          exact hcs1 j u hj) hvs h1v
        refine key.mono fun e w' he => ?_
        obtain ⟨he, hw⟩ := he
        refine ⟨_, he, ?_, ?_, fun g hg => .inr ?_⟩
        · rw [hw]
          have := hgrow cap
          have e2 : i64s l ++ [Value.int .i64 c] = i64s (l.insertIdx l.length c) := by
            rw [ins_list c l _ (Nat.le_refl _)]
            simp [i64s]
          rw [e2] at this ⊢
          exact this
        · rw [hw]
          exact grown_drew (World.grownBy_alloc _ _ _)
        · simp only [Value.ownBlock, Option.some.injEq] at hg
          omega
      · have hil : i < l.length := by omega
        have key := Any2.slices_Insert_int_grow insLays g 0 l.length cap i vb 0 1 1 (i64s l) [.int .i64 c] w hil (by decide) hnc hroom2 (by omega) hcl rfl hcs1 hvs (i64s_one l) h1v
        refine key.mono fun e w' he => ?_
        obtain ⟨he, hw⟩ := he
        have hge := grownCap_ge w (l.length + 1) cap 3
        have hcm2 := grownCap_le_maxLen w (l.length + 1) cap 3 (by unfold maxLen; omega)
        obtain ⟨K, hK⟩ : ∃ K, K = grownCap w (l.length + 1) cap 3 := ⟨_, rfl⟩
        have e3 : insRen.t 3 = 3 := rfl
        rw [e3, ← hK] at he hw
        rw [← hK] at hge hcm2
        have hz : ∀ n, (Builtin.zeroCells (Value.int .i64 0).cells n).size = n := fun n => by rw [size_zeroCells]; simp [Value.cells]
        obtain ⟨Z, hZ⟩ : ∃ Z, Z = (Builtin.zeroCells (Value.int .i64 0).cells (l.length + 1 - i)).toList := ⟨_, rfl⟩
        have hZl : Z.length = l.length + 1 - i := by rw [hZ, Array.length_toList, hz]
        have hti : ((i64s l).take i).length = i := by rw [List.length_take, hcl]; omega
        have hn0 : (w.alloc (.cells (((i64s l).take i).toArray ++ Builtin.zeroCells (Value.int .i64 0).cells (l.length + 1 - i) ++ Builtin.zeroCells (Value.int .i64 0).cells (K - (l.length + 1))) 3)).drew.ownsRow base 3 1 (.slice (some ⟨w.heap.size, 0, none⟩) (l.length + 1) K) (l.length + 1) ((i64s l).take i ++ Z) := by
          refine ⟨by rw [List.length_append, hti, hZl]; omega, .inr ⟨w.heap.size, _, _, rfl, hbw, heap_alloc_new w _, hge, hcm2, ?_, ?_⟩⟩
          · rw [Array.size_append, Array.size_append, List.size_toArray, hti, hz, hz]
            omega
          · rw [Array.toList_append, Array.toList_append, Nat.mul_one, ← hZ, List.take_append_of_le_length (by rw [List.length_append, List.toList_toArray, hti, hZl]; omega), List.take_of_length_le (by rw [List.length_append, List.toList_toArray, hti, hZl]; omega)]
        have hs1 := own_setC [Value.int .i64 c] (p := i) hn0 (by rw [List.length_append, hti, hZl]; simp; omega)
        have hs1d : ((w.alloc (.cells (((i64s l).take i).toArray ++ Builtin.zeroCells (Value.int .i64 0).cells (l.length + 1 - i) ++ Builtin.zeroCells (Value.int .i64 0).cells (K - (l.length + 1))) 3)).drew.setCells w.heap.size i [Value.int .i64 c]).drew.ownsRow base 3 1 (.slice (some ⟨w.heap.size, 0, none⟩) (l.length + 1) K) (l.length + 1) _ := hs1.1
        have hs2 := own_setC ((i64s l).drop i) (p := i + 1) hs1d (by
          rw [List.length_append, List.length_append, List.length_take, List.length_drop, List.length_drop, List.length_append, hti, hZl, hcl]
          simp
          omega)
        refine ⟨_, he, ?_, ?_, fun g hg => .inr ?_⟩
        · rw [hw]
          have e2 : (((i64s l).take i ++ Z).take i ++ [Value.int .i64 c] ++ ((i64s l).take i ++ Z).drop (i + [Value.int .i64 c].length)).take (i + 1) ++ (i64s l).drop i ++ (((i64s l).take i ++ Z).take i ++ [Value.int .i64 c] ++ ((i64s l).take i ++ Z).drop (i + [Value.int .i64 c].length)).drop (i + 1 + ((i64s l).drop i).length) = i64s (l.insertIdx i c) := by
            have := ins_grow (i64s l) Z (Value.int .i64 c) (i := i) (by rw [hcl]; omega) (by rw [hcl]; exact hZl)
            rw [show i + [Value.int .i64 c].length = i + 1 from rfl, this, ins_list c l i hi]
            simp [i64s]
          rw [e2] at hs2
          exact hs2.1
        · rw [hw]
          have g1 : w.grownBy (w.alloc (.cells (((i64s l).take i).toArray ++ Builtin.zeroCells (Value.int .i64 0).cells (l.length + 1 - i) ++ Builtin.zeroCells (Value.int .i64 0).cells (K - (l.length + 1))) 3)).drew (some w.heap.size) := by
            have g0 := World.grownBy_alloc w (.cells (((i64s l).take i).toArray ++ Builtin.zeroCells (Value.int .i64 0).cells (l.length + 1 - i) ++ Builtin.zeroCells (Value.int .i64 0).cells (K - (l.length + 1))) 3) (some w.heap.size)
            exact ⟨g0.os, g0.tape, g0.output, g0.size, g0.block⟩
          have g2 := G.grown_trans (G.grown_trans g1 hs1.2) (grown_drew hs2.2)
          exact ⟨g2.os, g2.tape, g2.output, g2.size, fun k hk _ => g2.block k hk (by simp; omega)⟩
        · simp only [Value.ownBlock, Option.some.injEq] at hg
          omega
end Go.Proofs.YtmhklnjmeoeanaaGreatDoor.D
namespace Go.Proofs.YtmhklnjmeoeanaaGreatDoor.D
open Go Go.RowKit
set_option linter.unusedVariables false
set_option linter.unusedSimpArgs false
theorem own_n {w : World} {b e sz n m : Nat} {v : Value} {xs : List Value} (h : w.ownsRow b e sz v n xs) (hn : n = m) : w.ownsRow b e sz v m xs := hn ▸ h
theorem moveS_yes {s s2 : St} {card : Int} {si sa di da : Nat} {l : List Int} (h2 : ((si : Nat) : Int) < s.zones.length) (h4 : ((di : Nat) : Int) < s.zones.length) (h5 : ¬ (((si : Nat) : Int) = ((di : Nat) : Int) ∧ ((sa : Nat) : Int) = ((da : Nat) : Int)))
    (k2 : sa < (s.zones.getD ((si : Nat) : Int).toNat []).length) (k3 : (s.zones.getD ((si : Nat) : Int).toNat []).getD ((sa : Nat) : Int).toNat 0 = card) (k5 : ((da : Nat) : Int) ≤ if ((si : Nat) : Int) = ((di : Nat) : Int) then ((s.zones.getD ((di : Nat) : Int).toNat []).length : Int) - 1 else ((s.zones.getD ((di : Nat) : Int).toNat []).length : Int))
    (hs2 : s2 = { s with zones := s.zones.set si ((s.zones.getD si []).eraseIdx sa) }) (hl : l = s2.zones.getD di []) : moveS s card si sa di da = some { s2 with zones := s2.zones.set di (l.insertIdx da card) } := by
  have hk : MoveOk s card si sa di da := ⟨⟨by omega, h2⟩, ⟨by omega, h4⟩, h5, ⟨by omega, by unfold zone; omega⟩, k3, by omega, k5⟩
  unfold moveS
  rw [if_pos hk, hl, hs2]
  unfold moveZ
  simp only [Int.toNat_natCast]
/-- A row of the state, as the walk reads it. -/
theorem StAt.row {w : World} {g base i : Nat} {x : SV} {s : St} (h : StAt w g base x s) (hi : i < s.zones.length) :
    ∃ gz a k, x.za = some ⟨gz, 0, none⟩ ∧ base ≤ gz ∧ x.rows.getD i undef = .slice a (s.zones.getD i []).length k ∧ w.cell? ⟨gz, i, none⟩ = some (.slice a (s.zones.getD i []).length k) ∧ w.frozen? ⟨gz, i, none⟩ = false ∧ (0 < (s.zones.getD i []).length → ∃ gr, a = some ⟨gr, 0, none⟩ ∧ ∀ j, j < (s.zones.getD i []).length → w.cell? ⟨gr, j, none⟩ = some (.int .i64 ((s.zones.getD i []).getD j 0))) := by
  have hz := h.own.z
  obtain ⟨gz, cz, hzv, hgz, hnc, cur, hgg⟩ := G.own_addr hz (by omega)
  simp only [Value.slice.injEq, true_and] at hzv
  obtain ⟨hza, hzc⟩ := hzv
  have hr := h.own.rows i hi
  obtain ⟨a, k, hv⟩ := G.own_shape hr
  rw [hza] at hz
  have hrl := rows_len h.own
  have hc : x.rows[i]? = some (x.rows.getD i undef) := by rw [getD_lt (by omega)]; exact List.getElem?_eq_getElem (by omega)
  have hcell := own_cells hz hc
  rw [hv] at hcell
  refine ⟨gz, a, k, hza, hgz, hv, hcell, hz.frozenAt i, fun hpos => ?_⟩
  rw [hv] at hr
  obtain ⟨gr, cr, hrv, _⟩ := G.own_addr hr hpos
  simp only [Value.slice.injEq, true_and] at hrv
  obtain ⟨rfl, rfl⟩ := hrv
  refine ⟨gr, rfl, fun j hj => own_cells hr ?_⟩
  unfold i64s
  rw [List.getElem?_map, List.getElem?_eq_getElem hj, getD_lt hj]
  rfl
def FrZ (g gz n zc : Nat) (w' : World) : Prop := w'.cell? ⟨g, 2, none⟩ = some (.slice (some ⟨gz, 0, none⟩) n zc)
theorem FrZ.set {g gz n zc i : Nat} {w' : World} {v : Value} (h : FrZ g gz n zc w') (hne : gz ≠ g) : FrZ g gz n zc (w'.setCell ⟨gz, i, none⟩ v) := (World.cell?_setCell_far w' ⟨gz, i, none⟩ ⟨g, 2, none⟩ v hne).trans h
theorem FrZ.alloc {g gz n zc : Nat} {w' : World} (h : FrZ g gz n zc w') (o : Obj) : FrZ g gz n zc (w'.alloc o) := (World.cell?_alloc_some w' ⟨g, 2, none⟩ o (by rw [show w'.cell? ⟨g, 2, none⟩ = _ from h]; rfl)).trans h
theorem StAt.gne {w : World} {g base gz : Nat} {x : SV} {s : St} (h : StAt w g base x s) (hza : x.za = some ⟨gz, 0, none⟩) : gz ≠ g := by
  intro e
  obtain ⟨c, hc⟩ := G.ownsRow.block_e h.own.z (show (Value.slice x.za s.zones.length x.zc).ownBlock = some gz by rw [hza]; rfl)
  have hb := h.blk
  unfold G.Blk at hb
  rw [e, hb] at hc
  simp only [Option.some.injEq, Obj.cells.injEq] at hc
  exact absurd hc.2.1 (by decide)
/-- A row has been written to, or made anew: what stands between that and its being laid into the list of rows. -/
theorem StAt.mid {w w1 : World} {g base i gz : Nat} {x : SV} {s : St} (h : StAt w g base x s) (hi : i < s.zones.length) (hza : x.za = some ⟨gz, 0, none⟩) (hg1 : w.grownBy w1 (x.rows.getD i undef).ownBlock) :
    w1.cell? ⟨g, 2, none⟩ = some (.slice (some ⟨gz, 0, none⟩) s.zones.length x.zc) ∧ w1.cell? ⟨gz, i, none⟩ = some (x.rows.getD i undef) ∧ w1.frozen? ⟨gz, i, none⟩ = false := by
  have hb := (h.own.but i).wrote hi (h.own.rows i hi) hg1
  have hk := blk_far h.blk (h.own.rows i hi) hg1 (by decide)
  have hz := hb.z
  rw [hza] at hz
  have hrl := rows_len h.own
  refine ⟨?_, own_cells hz (by rw [getD_lt (by omega)]; exact List.getElem?_eq_getElem (by omega)), hz.frozenAt i⟩
  have := hk.cell 2
  rw [this, ← hza]
  rfl
theorem StAt.rowput {w w1 : World} {g base i gz : Nat} {x : SV} {s : St} {v1 : Value} {l : List Int} (h : StAt w g base x s) (hi : i < s.zones.length) (hza : x.za = some ⟨gz, 0, none⟩) (ho1 : w1.ownsRow base 3 1 v1 l.length (i64s l))
    (hg1 : w.grownBy w1 (x.rows.getD i undef).ownBlock) (hb1 : ∀ q, v1.ownBlock = some q → (x.rows.getD i undef).ownBlock = some q ∨ w.heap.size ≤ q) :
    StAt (w1.setCell ⟨gz, i, none⟩ v1) g base { x with rows := x.rows.set i v1 } { s with zones := s.zones.set i l } := by
  have hb := (h.own.but i).wrote hi (h.own.rows i hi) hg1
  have hk := blk_far h.blk (h.own.rows i hi) hg1 (by decide)
  have hzz := hb.z
  refine ⟨?_, hb.zset hi hza ho1 fun j hj hn => ?_, h.ge⟩
  · have hk2 := blk_far hk hzz (by rw [hza] at hzz ⊢; exact (hzz.stored i v1).2) (by decide)
    simpa [SV.arr] using hk2
  · cases hvj : (x.rows.getD j undef).ownBlock with
    | none => exact .inl rfl
    | some q =>
      refine .inr fun e => ?_
      rcases hb1 q e.symm with h1 | h1
      · rcases h.own.apart j i hj hi hn with h2 | h2
        · rw [hvj] at h2; cases h2
        · exact h2 (by rw [hvj, h1])
      · have := ((h.own.rows j hj).lt q hvj).2
        omega
theorem StAt.rowbl {w w1 : World} {g base i gz : Nat} {x : SV} {s : St} {v1 : Value} (h : StAt w g base x s) (hi : i < s.zones.length) (hza : x.za = some ⟨gz, 0, none⟩) (hg1 : w.grownBy w1 (x.rows.getD i undef).ownBlock) : Below base w (w1.setCell ⟨gz, i, none⟩ v1) := by
  have hlt := h.blk.lt
  have hge := h.ge
  have h1 : Below base w w1 := (Below.refl _ _).grown hg1 (by omega) fun q hq => ((h.own.rows i hi).lt q hq).1
  have hz := h.own.z
  have h2 := (hz.lt gz (by rw [hza]; rfl)).1
  exact h1.setCell h2 _
theorem StAt.rowbk {w w1 : World} {g base i gz : Nat} {x : SV} {s : St} {v1 : Value} (h : StAt w g base x s) (hi : i < s.zones.length) (hza : x.za = some ⟨gz, 0, none⟩) (hg1 : w.grownBy w1 (x.rows.getD i undef).ownBlock) : Bk base w (w1.setCell ⟨gz, i, none⟩ v1) :=
  ⟨h.rowbl hi hza hg1, fun k o hk hf => by
    have hz := h.own.z
    have h1 : StBlk w gz := StBlk.own hz (by rw [hza]; rfl) (by decide)
    have hne : k ≠ gz := fun e => by
      subst e
      exact h1.near hk hf
    exact (Below.heap_setCell w1 ⟨gz, i, none⟩ v1 k hne).trans (far_grown hg1 (fun r hr => StBlk.own (h.own.rows i hi) hr (by decide)) k o hk hf)⟩
end Go.Proofs.YtmhklnjmeoeanaaGreatDoor.D

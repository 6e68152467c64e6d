/- A card, a player of a state, loaded whole; what the loops of settle.due keep. -/
import Derived.Test.YtmhklnjmeoeanaaGreatDoorDBackI
import Derived.Test.YtmhklnjmeoeanaaGreatDoorSAdd
import Derived.Test.YtmhklnjmeoeanaaGreatDoorDShufD
namespace Go.Proofs.YtmhklnjmeoeanaaGreatDoor.D
open Go Go.RowKit
set_option linter.unusedVariables false
set_option linter.unusedSimpArgs false
attribute [local go_sem] Oper.semAt_some
/-- What is handed to a round. -/
def encR (s : St) (k : Nat) : Array Value := #[.int .i64 (ringAt s k)]
theorem ring_any (cs : Array Value) (w : World) : Calls Tryz.prog 76 #[.agg cs] w
    (fun e w' => e = .returned (.func (.func 93) #[] #[.pointer (some ⟨w.heap.size, 0, none⟩)]) ∧ w' = w.alloc (.cells cs 27)) := by
  go_enter Tryz.func76, Tryz.ntmps76
  go_wp2
  go_ret
  exact ⟨rfl, rfl⟩
set_option maxRecDepth 100000 in
set_option maxHeartbeats 4000000 in
theorem ring1_in (l Bs n₀ : Nat) (x : SV) (s : St) (hm : May s) (J Jx : List Nat → World → Prop)
    (hY : ∀ pre k W, J pre W → pre.length < s.players.length → YieldAt Fence.wide 1 Tryz.prog l (encR s k) W fun e W' =>
      (e = .returned (.bool true) ∧ J (pre ++ [k]) W' ∧ KpB n₀ Bs W W') ∨ (e = .returned (.bool false) ∧ Jx (pre ++ [k]) W'))
    (W : World) (hb : G.Blk W Bs 27 (x.arr s)) (h0 : J [] W) :
    CallsIn Fence.wide 2 Tryz.prog 93 #[.func (.yield l) #[] #[], .pointer (some ⟨Bs, 0, none⟩)] W fun e W' => (∃ v, e = .returned v) ∧
      ((∃ ys, ys = List.range s.players.length ∧ J ys W') ∨ (∃ pre, (∃ k, k < s.players.length ∧ pre = List.range (k + 1)) ∧ Jx pre W')) := by
  refine callsIn_of_wp Tryz.func93 rfl trivial ?_ rfl
  simp only [Tryz.ntmps93, List.size_toArray, List.length_cons, List.length_nil, Nat.reduceAdd, Nat.reduceSub, Array.replicate_succ, Array.replicate_zero, List.push_toArray, List.append_toArray, List.nil_append, List.cons_append]
  have hn2 := hm.n2
  have hn4 := hm.n4
  obtain ⟨hw1, hw2⟩ := hm.whose
  have HE : ∀ k, encR s k = #[.int .i64 (ringAt s k)] := fun _ => rfl
  unfold ringAt at HE
  have HB := Lib.hid hb
  have c0 : W.cell? ⟨Bs, 0, none⟩ = some (.slice x.pa s.players.length x.pc) := hb.cell 0
  have l0 := hb.lt
  obtain ⟨n, hn⟩ : ∃ n, n = s.players.length := ⟨_, rfl⟩
  obtain ⟨wh, hwh⟩ : ∃ q, q = s.whose := ⟨_, rfl⟩
  have HWH := Lib.hid hwh
  rw [← hn] at hY HE c0 hn2 hn4 hw2 ⊢
  rw [← hwh] at HE hw1 hw2
  have HC4 := Lib.hid (show ∀ V : World, G.Blk V Bs 27 (x.arr s) → V.cell? ⟨Bs, 4, none⟩ = some (.int .i64 wh) from fun V hV => by rw [hwh]; exact hV.cell 4)
  clear hb hm hn hwh
  gi_wp2
  gi_loopw [9] (fun i wr => ∃ k : Nat, k ≤ n ∧ i = .int .i64 (k : Int) ∧ J (List.range k) wr ∧ KpB n₀ Bs W wr) (fun i _ => n - (intOf i).toNat)
  case atStart => exact ⟨0, Nat.zero_le _, by go_num, h0, KpB.refl _ _ _⟩
  case round =>
    obtain ⟨k, hk, rfl, hJs, hnx⟩ := hrel
    have hbr : G.Blk wr Bs 27 (x.arr s) := hnx.bs.trans HB.out
    have c4 := HC4.out wr hbr
    have l4 := hbr.lt
    have HNX := Lib.hid hnx
    clear hnx hbr
    have hk0 : (0 : Int) ≤ k := by omega
    by_cases hlt : k < n
    · have hkI : (k : Int) < n := by omega
      obtain ⟨fn, tmps, assign, body, hy, hR⟩ := hY _ k wr hJs (by rw [List.length_range]; exact hlt)
      rw [HE k] at hy
      have hs0 : (0 : Int) ≤ wh + (k : Int) := by omega
      have hrem : (wh + (k : Int)).tmod (n : Int) = (wh + (k : Int)) % (n : Int) := Int.tmod_eq_emod_of_nonneg hs0
      have hr0 : 0 ≤ (wh + (k : Int)) % (n : Int) := Int.emod_nonneg _ (by omega)
      have hr1 : (wh + (k : Int)) % (n : Int) < n := Int.emod_lt_of_pos _ (by omega)
      have hnz : ¬ (n : Int) = 0 := by omega
      gi_wp2
      refine hR.mono ?_
      rintro e W3 (⟨rfl, hJ3, hk3⟩ | ⟨rfl, hJx3⟩)
      · gi_wp2
        go_roundw
        case rel => exact ⟨k + 1, by omega, by go_num, by rw [List.range_succ]; exact hJ3, HNX.out.trans hk3⟩
        case measure => (simp [intOf]; try omega)
      · gi_wp2
        refine bodyPost_ret (results_none rfl _ _ _) rfl ?_
        exact ⟨⟨_, rfl⟩, .inr ⟨_, ⟨k, hlt, List.range_succ.symm⟩, hJx3⟩⟩
    · have hkI : ¬ (k : Int) < n := by omega
      obtain rfl : k = n := by omega
      gi_wp2
      go_end0
      exact ⟨⟨_, rfl⟩, .inl hJs⟩
end Go.Proofs.YtmhklnjmeoeanaaGreatDoor.D
namespace Go.Proofs.YtmhklnjmeoeanaaGreatDoor.D
open Go Go.RowKit
set_option linter.unusedVariables false
set_option linter.unusedSimpArgs false
theorem und_struct {P : Program} {t : TypeId} (hu : (P.underlying t).map (fun d => match d with | .struct _ => true | _ => false) = some true) : ∃ fs, P.underlying t = some (.struct fs) := by
  cases hx : P.underlying t with
  | none => rw [hx] at hu; simp at hu
  | some d =>
    rw [hx] at hu
    cases d <;> simp at hu
    exact ⟨_, rfl⟩
theorem sizeCd25 : (Tryz.prog.info? 39).map (·.size) = some 6 := by kernel_rfl
theorem sizePl25 : (Tryz.prog.info? 44).map (·.size) = some 3 := by kernel_rfl
theorem cd_whole {w : World} {A : Option Addr} {l : List Cd} (h : G.RdS w A 6 l.length (flatC l)) {k : Nat} (hk : k < l.length) :
    ∃ b off, A = some ⟨b, off, none⟩ ∧ b < w.heap.size ∧ (loadVar 39 ⟨b, off + k * 6, none⟩).run Tryz.prog w = .ok (.agg (l.getD k zeroCd).cells.toArray) w := by
  obtain ⟨b, off, e, hr⟩ := h.2 (by omega)
  have hc : ∀ j v, (l.getD k zeroCd).cells.toArray[j]? = some v → w.cell? ⟨b, off + k * 6 + j, none⟩ = some v := fun j v hv => by
    have hj : j < 6 := (Array.getElem?_eq_some_iff.1 hv).1
    have h1 := hr.2 (k * 6 + j) (by rw [flatC_length]; omega)
    have h2 : (flatC l).getD (k * 6 + j) undef = (Cd.cells (l.getD k zeroCd)).getD j undef := G.flat_getD Cd.cells 6 (fun _ => rfl) zeroCd l k j hk hj
    rw [h2] at h1
    rw [Nat.add_assoc, h1, List.getD_eq_getElem?_getD]
    have h3 : (l.getD k zeroCd).cells[j]? = some v := by simpa using hv
    rw [h3]
    rfl
  obtain ⟨fs, hfs⟩ := und_struct (show (Tryz.prog.underlying 39).map (fun d => match d with | .struct _ => true | _ => false) = some true by kernel_rfl)
  exact ⟨b, off, e, hr.1, run_loadVar_at w b _ _ _ _ hc hfs rfl sizeCd25⟩
theorem pl_whole {w : World} {A : Option Addr} {l : List Pl} (h : G.RdS w A 3 l.length (flatP l)) {k : Nat} (hk : k < l.length) :
    ∃ b off, A = some ⟨b, off, none⟩ ∧ b < w.heap.size ∧ (loadVar 44 ⟨b, off + k * 3, none⟩).run Tryz.prog w = .ok (.agg (l.getD k zeroPl).cells.toArray) w := by
  obtain ⟨b, off, e, hr⟩ := h.2 (by omega)
  have hc : ∀ j v, (l.getD k zeroPl).cells.toArray[j]? = some v → w.cell? ⟨b, off + k * 3 + j, none⟩ = some v := fun j v hv => by
    have hj : j < 3 := (Array.getElem?_eq_some_iff.1 hv).1
    have h1 := hr.2 (k * 3 + j) (by rw [flatP_len]; omega)
    have h2 : (flatP l).getD (k * 3 + j) undef = (Pl.cells (l.getD k zeroPl)).getD j undef := G.flat_getD Pl.cells 3 (fun _ => rfl) zeroPl l k j hk hj
    rw [h2] at h1
    rw [Nat.add_assoc, h1, List.getD_eq_getElem?_getD]
    have h3 : (l.getD k zeroPl).cells[j]? = some v := by simpa using hv
    rw [h3]
    rfl
  obtain ⟨fs, hfs⟩ := und_struct (show (Tryz.prog.underlying 44).map (fun d => match d with | .struct _ => true | _ => false) = some true by kernel_rfl)
  exact ⟨b, off, e, hr.1, run_loadVar_at w b _ _ _ _ hc hfs rfl sizePl25⟩
theorem row_at {w : World} {x : SV} {s : St} {z : Nat} (h : RdSt w x s) (hz : z < s.zones.length) {ra : Option Addr} {rk : Nat} (hv : x.rows.getD z undef = .slice ra (s.zones.getD z []).length rk) : G.RdS w ra 1 (s.zones.getD z []).length (i64s (s.zones.getD z [])) := by
  obtain ⟨a, k, e, hr⟩ := h.rows z hz
  rw [hv] at e
  cases e
  exact hr
theorem mem_getD25 {α : Type} {l : List α} {d : α} {i : Nat} (h : i < l.length) : l.getD i d ∈ l := by
  rw [List.getD_eq_getElem?_getD, List.getElem?_eq_getElem h]
  exact List.getElem_mem h
theorem wpK_load_held {P : Program} {ops : Array Oper} {o : Oper} {a : Act} {w : World} {K : Act → World → Prop} {Q : Exit → Act → World → Prop} (hw : Region.wanted o (yielded ops a.tmps) = true) (ty : TypeId) (x : Operand) (ho : o.op = .load ty x)
    (g : Nat) (hx : a.eval x = .pointer (some ⟨g, 0, none⟩)) (cs : Array Value) (h : (loadVar ty ⟨g, 0, none⟩).run P w = .ok (.agg cs) w) (k : K (a.put o.dst (.agg cs)) w) : if Region.wanted o (yielded ops a.tmps) = true then Oper.wp P o a w K Q else K (a.put o.dst undef) w := by
  rw [if_pos hw]
  unfold Oper.wp execOp
  simp only [ho, hx, Instr.loadAt, Instr.sureAddr, Sem.run_bind, Sem.run_pure, Result.andThen_ok, h]
  exact k
theorem askP_yes {s : St} {ok : Prop} {l : List Ev} {k : Int} {L : List (EV × Ev)} (hm : May s) (ho : ok) (h : (k = 10 ∧ ¬ May s ∧ L = []) ∨ (k = 1 ∧ May s ∧ ¬ ok ∧ L = []) ∨ (k = 0 ∧ May s ∧ ok ∧ L.map Prod.snd = l)) : k = 0 ∧ L.map Prod.snd = l := by
  rcases h with ⟨_, h, _⟩ | ⟨_, _, h, _⟩ | ⟨h1, _, _, h2⟩
  · exact absurd hm h
  · exact absurd ho h
  · exact ⟨h1, h2⟩
/-- The closure is handed what an ask has answered. -/
theorem add_asked (g4 g5 base : Nat) (a : St × List Ev) (A : Option Addr) (n c b8 : Nat) (L : List (EV × Ev)) (l : List Ev) (w : World) (hN : Now g4 g5 base a w) (hm : May a.1) (hl : OwnEvs w b8 A n c L) (hb8 : g5 + 1 + 1 + 1 < b8) (hL : L.map Prod.snd = l) (hc : CanDo a.1 l) (hlen : a.2.length ≤ 33554432) :
    Calls Tryz.prog 74 #[.slice A n c, .int .i64 0, .pointer (some ⟨g4, 0, none⟩), .pointer (some ⟨g5, 0, none⟩)] w (AddPost g4 g5 base a l w) := by
  subst hL
  exact add_any g4 g5 base a A n c b8 0 L w hN hm hl hb8 (by have h1 := ownEvs_len hl; have h2 := hc.1; rw [List.length_map] at h2; omega) hc.2 hlen
theorem wrap_small {x : Int} (h1 : -9223372036854775808 ≤ x) (h2 : x ≤ 9223372036854775807) : IntKind.i64.wrap x = x := by
  simp [IntKind.wrap, IntKind.signed, IntKind.bits]
  omega
theorem four_objs (w : World) (t1 t2 t3 t4 : TypeId) (a b c d : Array Value) (W : World) (hW : W = (((w.alloc (.cells a t1)).alloc (.cells b t2)).alloc (.cells c t3)).alloc (.cells d t4)) : G.Blk W w.heap.size t1 a ∧ G.Blk W (w.heap.size + 1) t2 b ∧ G.Blk W (w.heap.size + 1 + 1) t3 c ∧ G.Blk W (w.heap.size + 1 + 1 + 1) t4 d ∧ Below w.heap.size w W ∧ W.heap.size = w.heap.size + 1 + 1 + 1 + 1 := by
  subst hW
  have z1 : (w.alloc (.cells a t1)).heap.size = w.heap.size + 1 := by simp
  have z2 : ((w.alloc (.cells a t1)).alloc (.cells b t2)).heap.size = w.heap.size + 1 + 1 := by simp
  have z3 : (((w.alloc (.cells a t1)).alloc (.cells b t2)).alloc (.cells c t3)).heap.size = w.heap.size + 1 + 1 + 1 := by simp
  have h1 := G.Blk.new w t1 a
  have h2 := G.Blk.new (w.alloc (.cells a t1)) t2 b
  rw [z1] at h2
  have h3 := G.Blk.new ((w.alloc (.cells a t1)).alloc (.cells b t2)) t3 c
  rw [z2] at h3
  have h4 := G.Blk.new (((w.alloc (.cells a t1)).alloc (.cells b t2)).alloc (.cells c t3)) t4 d
  rw [z3] at h4
  have k1 := G.bl_alloc (Below.refl (w.alloc (.cells a t1)).heap.size _) (.cells b t2)
  have k2 := G.bl_alloc (Below.refl ((w.alloc (.cells a t1)).alloc (.cells b t2)).heap.size _) (.cells c t3)
  have k3 := G.bl_alloc (Below.refl (((w.alloc (.cells a t1)).alloc (.cells b t2)).alloc (.cells c t3)).heap.size _) (.cells d t4)
  have q1 := h1.below k1 h1.lt
  have q2 := q1.below k2 q1.lt
  have r2 := h2.below k2 h2.lt
  exact ⟨q2.below k3 q2.lt, r2.below k3 r2.lt, h3.below k3 h3.lt, h4, G.bl_alloc (G.bl_alloc (G.bl_alloc (G.bl_alloc (Below.refl _ _) _) _) _) _, by simp⟩
/-- Between two rounds of a loop. -/
structure LpI (ex : List Nat) (g4 g5 base : Nat) (wl : World) (a : St × List Ev) (W : World) : Prop where
  now : Now g4 g5 base a W
  kp : AddK ex base wl W
theorem LpI.own {ex : List Nat} {g4 g5 base B : Nat} {wl : World} {f : List Nat → St × List Ev} (hB : wl.heap.size ≤ B) (hb : base ≤ wl.heap.size) : OwnFrom B (fun pre W => LpI ex g4 g5 base wl (f pre) W) := fun pre A A' row h hg hr =>
  ⟨h.now.noncell hg (fun r e => (hr r e).2), h.kp.grown hg hr hB hb⟩
theorem AddK.fin {ex : List Nat} {base B Bs : Nat} {W W' : World} {cs : Array Value} (hk : AddK ex base W W') (hb : G.Blk W Bs 27 cs) (hn : Bs ∉ ex) : KeepsFrom B W W' ∧ KpB base Bs W W' :=
  ⟨hk.keeps.from _, hk.below, (hk.blk hb hn (by decide)).trans hb.symm⟩
theorem own_one (W : World) {e : Ev} (he : e.order = []) : OwnEvs (W.alloc (.cells ((⟨none, 0⟩ : EV).arr e) 37)) W.heap.size (some ⟨W.heap.size, 0, none⟩) 1 1 [(⟨none, 0⟩, e)] := by
  refine ⟨?_, fun i hi => ?_⟩
  · have := World.ownsRow_lit (base := W.heap.size) (e := 37) (size := 12) W ((⟨none, 0⟩ : EV).arr e) 1 (Nat.le_refl _) (by unfold maxLen; omega) rfl
    have e1 : flatE [((⟨none, 0⟩ : EV), e)] = ((⟨none, 0⟩ : EV).arr e).toList := by simp [flatE, cellsE]
    rw [e1]
    exact this
  · obtain rfl : i = 0 := by omega
    show World.ownsRow _ _ _ 1 (.slice none e.order.length 0) e.order.length (i64s e.order)
    rw [he]
    exact World.ownsRow_nil _ _ _ _
theorem end_can {s : St} (h : May s) (h0 : s.fin = 0) (hl : (inL s).length < 2) : CanDo (dropS s).1 [endOf (inL s)] := by
  refine ⟨Nat.le_refl _, fun e he => ?_⟩
  obtain rfl := List.mem_singleton.1 he
  obtain ⟨t, ht, _⟩ := end_step h h0 hl
  refine ⟨?_, by rw [endOf_order]; exact Nat.zero_le _, t, ht⟩
  unfold endOf
  split
  · exact ⟨by decide, by decide, by decide, by decide, by decide, by decide, by decide, by decide, by decide, by decide, by decide⟩
  · rename_i p hp
    have hp2 := ((in_mem h).1 (List.mem_of_mem_getLast? hp)).1
    have hn := h.n4
    have h1 := hp2.1
    have h2 := hp2.2
    have h3 : -9223372036854775808 ≤ p ∧ p ≤ 9223372036854775807 := ⟨by omega, by omega⟩
    constructor <;> first | exact h3 | (simp [zeroEv])
theorem endOf_eq2 {s : St} {v u : Int} (hv : v = ((inL s).length : Int)) (hu : u = inLastR s (List.range s.players.length)) : endOf (inL s) = if v = 0 then { zeroEv with kind := 7, now := 2, player := 0 } else { zeroEv with kind := 7, now := 1, player := u } := by
  rw [endOf_eq, hu]
  have e1 : inN s (ringL s) = (inL s).length := rfl
  have e2 : inLast s (ringL s) = inLastR s (List.range s.players.length) := by unfold inLastR; rw [inR_all]; rfl
  rw [e1, e2]
  by_cases h : v = 0
  · rw [if_pos h, if_pos (by omega)]
  · rw [if_neg h, if_neg (by omega)]
theorem due_done {w w8 : World} {g D D2 base nz cz : Nat} {xz : SV} {t : St} {Az : Option Addr} {Lz : List (EV × Ev)} {zs : Array Value} (cy : Array Value) (hst : OwnSt w8 base xz t) (how : OwnEvs w8 base Az nz cz Lz) (hr : G.Blk w8.drew (g + 1) 27 zs) (hb : Below w.heap.size w w8) (hg : w.heap.size ≤ g + 1) (hbase : w.heap.size ≤ base)
    (h1 : w8.heap[D]? = some (.deferred (some []))) (h2 : w8.heap[D2]? = some (.deferred (some []))) (hne : D ≠ D2) (hgd : g + 1 < D) (hgd2 : g + 1 < D2) :
    (w8.drew.setRow (g + 1) cy).heap[D2]? = some (.deferred (some [])) ∧ ((w8.drew.setRow (g + 1) cy).putObj D2 (.deferred none)).heap[D]? = some (.deferred (some [])) ∧
      G.Blk (((w8.drew.setRow (g + 1) cy).putObj D2 (.deferred none)).putObj D (.deferred none)) (g + 1) 27 cy ∧ OwnSt (((w8.drew.setRow (g + 1) cy).putObj D2 (.deferred none)).putObj D (.deferred none)) w.heap.size xz t ∧
      OwnEvs (((w8.drew.setRow (g + 1) cy).putObj D2 (.deferred none)).putObj D (.deferred none)) w.heap.size Az nz cz Lz ∧ Below w.heap.size w (((w8.drew.setRow (g + 1) cy).putObj D2 (.deferred none)).putObj D (.deferred none)) := by
  have hO : G.Only 27 0 w8.drew (w8.drew.setRow (g + 1) cy) := only_row hr
  have q2 : (w8.drew.setRow (g + 1) cy).heap[D2]? = some (.deferred (some [])) := (setRow_other _ _ _ _ (by omega)).trans h2
  have q1 : (w8.drew.setRow (g + 1) cy).heap[D]? = some (.deferred (some [])) := (setRow_other _ _ _ _ (by omega)).trans h1
  have q3 : ((w8.drew.setRow (g + 1) cy).putObj D2 (.deferred none)).heap[D]? = some (.deferred (some [])) := (World.putObj_heap_other hne).trans q1
  have hs : OwnSt (w8.drew.setRow (g + 1) cy) w.heap.size xz t := ((hst.ge hbase).below (Below.refl _ _).drew).only hO (by decide) (by decide) (by decide) (by decide)
  have he : OwnEvs (w8.drew.setRow (g + 1) cy) w.heap.size Az nz cz Lz := ((how.ge hbase).below (Below.refl _ _).drew).only2 hO (by decide) (by decide)
  have hk : G.Blk (w8.drew.setRow (g + 1) cy) (g + 1) 27 cy := setRow_heap _ _ _ _ _ _ hr
  have hz := hb.size
  have l1 : D < w8.heap.size := (Array.getElem?_eq_some_iff.1 h1).1
  have r2 : ∀ r, some D2 = some r → ∃ o : Obj, (w8.drew.setRow (g + 1) cy).heap[r]? = some o ∧ o.isCells = false := fun r e => by cases e; exact ⟨_, q2, rfl⟩
  have r1 : ∀ r, some D = some r → ∃ o : Obj, ((w8.drew.setRow (g + 1) cy).putObj D2 (.deferred none)).heap[r]? = some o ∧ o.isCells = false := fun r e => by cases e; exact ⟨_, q3, rfl⟩
  refine ⟨q2, q3, blk_put_obj (blk_put_obj hk (by omega)) (by omega), (hs.noncell2 q2).noncell2 q3, (he.noncell (grownBy_putObj' _ D2 _) r2).noncell (grownBy_putObj' _ D _) r1, ?_⟩
  exact below_put_obj (below_put_obj (below_setRow (G.bl_trans hb (Below.refl _ _).drew) hg _) (by omega)) (by omega)
/-- Between two rounds of the second loop. -/
structure DpI (g4 g5 base : Nat) (wl : World) (s : St) (pre : List Nat) (W : World) : Prop where
  now : Now g4 g5 base (dacc s pre) W
  kp : AddK [g4, g5, g5 + 1 + 1, g5 + 1 + 1 + 1] base wl W
  box : ∃ v u : Int, G.Blk W (g5 + 1 + 1) 3 #[.int .i64 v] ∧ G.Blk W (g5 + 1 + 1 + 1) 3 #[.int .i64 u] ∧ (s.fin = 0 → v = ((inR s pre).length : Int) ∧ u = inLastR s pre)
theorem DpI.start {g4 g5 base : Nat} {wl : World} {s : St} (h : Now g4 g5 base (dacc s []) wl) (h7 : G.Blk wl (g5 + 1 + 1) 3 #[.int .i64 0]) (h8 : G.Blk wl (g5 + 1 + 1 + 1) 3 #[.int .i64 0]) : DpI g4 g5 base wl s [] wl :=
  ⟨h, AddK.refl _ _ _, 0, 0, h7, h8, fun _ => ⟨rfl, rfl⟩⟩
theorem DpI.own {g4 g5 base B : Nat} {wl : World} {s : St} (hB : wl.heap.size ≤ B) (hb : base ≤ wl.heap.size) : OwnFrom B (fun pre W => DpI g4 g5 base wl s pre W) := fun pre A A' row h hg hr => by
  have hr2 : ∀ r, row = some r → ∃ o : Obj, A.heap[r]? = some o ∧ o.isCells = false := fun r e => (hr r e).2
  obtain ⟨v, u, h1, h2, h3⟩ := h.box
  exact ⟨h.now.noncell hg hr2, h.kp.grown hg hr hB hb, v, u, blk_noncell h1 hg hr2, blk_noncell h2 hg hr2, h3⟩
theorem DpI.below {g4 g5 base : Nat} {wl : World} {s : St} {pre : List Nat} {W W' : World} (h : DpI g4 g5 base wl s pre W) (hb : Below W.heap.size W W') (hB : base ≤ wl.heap.size) : DpI g4 g5 base wl s pre W' := by
  obtain ⟨v, u, h1, h2, h3⟩ := h.box
  exact ⟨h.now.below hb, h.kp.trans (AddK.of hb (Nat.le_trans hB h.kp.size)), v, u, h1.below hb h1.lt, h2.below hb h2.lt, h3⟩
theorem DpI.ends {g4 g5 base : Nat} {wl : World} {s : St} {pre : List Nat} {W : World} (h : DpI g4 g5 base wl s pre W) (hf : s.fin ≠ 0) (pre' : List Nat) : DpI g4 g5 base wl s pre' W := by
  obtain ⟨v, u, h1, h2, h3⟩ := h.box
  exact ⟨by rw [dacc_end hf]; have h9 := h.now; rw [dacc_end hf] at h9; exact h9, h.kp, v, u, h1, h2, fun e => absurd e hf⟩
theorem DpI.skip {g4 g5 base k : Nat} {wl : World} {s : St} {pre : List Nat} {W : World} (h : DpI g4 g5 base wl s pre W) (h0 : s.fin = 0) (ho : (plAt s (ringAt s k)).out = true) : DpI g4 g5 base wl s (pre ++ [k]) W := by
  obtain ⟨v, u, h1, h2, h3⟩ := h.box
  have hi : inB s (ringAt s k) = false := by unfold inB; rw [ho]; rfl
  refine ⟨?_, h.kp, v, u, h1, h2, fun e => ?_⟩
  · rw [dacc_next h0]
    unfold dropE
    rw [if_pos ho]
    exact h.now
  · obtain ⟨q1, q2⟩ := h3 e
    rw [inR_next, if_neg (by rw [hi]; decide)]
    refine ⟨q1, ?_⟩
    unfold inLastR at q2 ⊢
    rw [inR_next, if_neg (by rw [hi]; decide)]
    exact q2
theorem DpI.drop {g4 g5 base k : Nat} {wl : World} {s : St} {pre : List Nat} {W W' : World} (h : DpI g4 g5 base wl s pre W) (h0 : s.fin = 0) (ho : (plAt s (ringAt s k)).out = false) (hl : (plAt s (ringAt s k)).life ≤ 0) (hn : Now g4 g5 base (doEs (dacc s pre) (outEv (dacc s pre).1 (ringAt s k))) W') (hk : AddK [g4, g5] base W W') (hg : g4 < g5) : DpI g4 g5 base wl s (pre ++ [k]) W' := by
  obtain ⟨v, u, h1, h2, h3⟩ := h.box
  have hi : inB s (ringAt s k) = false := by
    unfold inB
    have : ¬ 0 < (plAt s (ringAt s k)).life := by omega
    simp [this]
  refine ⟨?_, h.kp.trans (hk.mono (fun q hq => by simp at hq ⊢; omega)), v, u, hk.blk h1 (by simp; omega) (by decide), hk.blk h2 (by simp; omega) (by decide), fun e => ?_⟩
  · rw [dacc_next h0]
    unfold dropE
    rw [if_neg (by rw [ho]; decide), if_pos hl]
    exact hn
  · obtain ⟨q1, q2⟩ := h3 e
    rw [inR_next, if_neg (by rw [hi]; decide)]
    refine ⟨q1, ?_⟩
    unfold inLastR at q2 ⊢
    rw [inR_next, if_neg (by rw [hi]; decide)]
    exact q2
theorem DpI.stay {g4 g5 base k : Nat} {wl : World} {s : St} {pre : List Nat} {W W' : World} (h : DpI g4 g5 base wl s pre W) (h0 : s.fin = 0) (ho : (plAt s (ringAt s k)).out = false) (hl : ¬ (plAt s (ringAt s k)).life ≤ 0) (hn : Now g4 g5 base (dacc s pre) W') (hk : AddK [g4, g5, g5 + 1 + 1, g5 + 1 + 1 + 1] base W W')
    (h7 : G.Blk W' (g5 + 1 + 1) 3 #[.int .i64 (((inR s pre).length : Int) + 1)]) (h8 : G.Blk W' (g5 + 1 + 1 + 1) 3 #[.int .i64 (ringAt s k)]) : DpI g4 g5 base wl s (pre ++ [k]) W' := by
  have hi : inB s (ringAt s k) = true := by
    unfold inB
    rw [ho]
    have : 0 < (plAt s (ringAt s k)).life := by omega
    simp [this]
  refine ⟨?_, h.kp.trans hk, _, _, h7, h8, fun e => ?_⟩
  · rw [dacc_next h0]
    unfold dropE
    rw [if_neg (by rw [ho]; decide), if_neg hl]
    exact hn
  · unfold inLastR
    rw [inR_next, if_pos hi]
    refine ⟨by simp, by simp⟩
end Go.Proofs.YtmhklnjmeoeanaaGreatDoor.D
namespace Go.Proofs.YtmhklnjmeoeanaaGreatDoor.D
open Go Go.RowKit
set_option linter.unusedVariables false
set_option linter.unusedSimpArgs false
theorem doEs_snd : ∀ (es : List Ev) (a : St × List Ev), (doEs a es).2 = a.2 ++ es
  | [], a => by simp [doEs]
  | e :: es, a => by
    have := doEs_snd es (doneE a e)
    rw [show doEs a (e :: es) = doEs (doneE a e) es from rfl, this]
    simp [doneE]
def AllFit (l : List Ev) : Prop := ∀ e ∈ l, e.Fits
theorem AllFit.app {l es : List Ev} (h : AllFit l) (k : AllFit es) : AllFit (l ++ es) := fun e he => (List.mem_append.1 he).elim (h e) (k e)
theorem CanDo.fits {t : St} {es : List Ev} (h : CanDo t es) : AllFit es := fun e he => (h.2 e he).1
theorem kills_fit {s : St} (h : May s) : ∀ (cs : List Int) {a : St × List Ev}, Good s a → (∀ c ∈ cs, Within c s.cards.length) → AllFit a.2 → AllFit (cs.foldl (killE s) a).2
  | [], a, _, _, k => k
  | c :: cs, a, g, hc, k => by
    obtain ⟨_, g1, _, c1⟩ := kill_good h g (hc c (by simp))
    refine kills_fit h cs g1 (fun d hd => hc d (List.mem_cons_of_mem _ hd)) ?_
    show AllFit (doEs a _).2
    rw [doEs_snd]
    exact k.app c1.fits
theorem drops_fit {s : St} (h : May s) : ∀ (ps : List Int) {a : St × List Ev}, Good s a → (∀ p ∈ ps, Within p s.players.length) → AllFit a.2 → AllFit (ps.foldl (dropE s) a).2
  | [], a, _, _, k => k
  | p :: ps, a, g, hp, k => by
    obtain ⟨_, g1, _, c1⟩ := drop_good h g (hp p (by simp))
    have key : Good s (dropE s a p) ∧ AllFit (dropE s a p).2 := by
      unfold dropE
      split
      · exact ⟨g, k⟩
      · split
        · exact ⟨g1, by rw [doEs_snd]; exact k.app c1.fits⟩
        · exact ⟨g, k⟩
    exact drops_fit h ps key.1 (fun d hd => hp d (List.mem_cons_of_mem _ hd)) key.2
theorem drop_fit {s : St} (h : May s) : AllFit (dropS s).2 := by
  have hk : Good s (killS s) ∧ AllFit (killS s).2 := ⟨(kills_good h (deadL s) (Good.start h) fun c hc => dead_within h hc).1, kills_fit h (deadL s) (Good.start h) (fun c hc => dead_within h hc) (fun e he => by cases he)⟩
  exact drops_fit h (ringL s) hk.1 (fun p hp => (ring_mem h).1 hp) hk.2
theorem due_fits {s : St} (h : May s) : ∀ e ∈ (dueP s).2, e.Fits := by
  by_cases h0 : s.fin = 0
  · rw [dueP_on h0]
    split
    · rename_i hl
      rw [doEs_snd]
      exact (drop_fit h).app (end_can h h0 hl).fits
    · exact drop_fit h
  · rw [dueP_end h0]
    exact fun e he => by cases he
end Go.Proofs.YtmhklnjmeoeanaaGreatDoor.D

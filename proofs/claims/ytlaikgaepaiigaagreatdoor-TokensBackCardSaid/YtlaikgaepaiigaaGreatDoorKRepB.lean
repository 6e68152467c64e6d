/- The replacer of quotes and backslashes: how it is built. -/
import Derived.Test.YtlaikgaepaiigaaGreatDoorKOnce
import Derived.Test.YtlaikgaepaiigaaGreatDoorKBase
import Derived.Handy
import Derived.Deep.LoopGhost
import Derived.WalkMore
import Derived.Deep.CutRange
import Derived.Deep.CutBlock
import Derived.Lib.SliceRun
import Derived.Lib.SlBytesRow
import Derived.Lib.Hide
import Derived.Deep.WholeRow
import Derived.Laws.IdiomStrings
import Derived.OwnWalk
import Derived.Laws.AppendOwnNone
namespace Go.Proofs.YtlaikgaepaiigaaGreatDoor.K
open Go Go.RowKit
set_option linter.unusedVariables false
set_option linter.unusedSimpArgs false
noncomputable def repA (V : Value) : Array Value := (Tryz.zeroCells108.toList.set 256 V).toArray
theorem zc_size : Tryz.zeroCells108.size = 257 := by kernel_rfl
theorem zc_one : Tryz.zeroCells108.toList.all (·.oneCell') = true := by kernel_rfl
theorem rep_info : (Tryz.prog.info? 108).map (·.size) = some 257 := by kernel_rfl
theorem repA_size (V : Value) : (repA V).size = 257 := by
  unfold repA
  rw [List.size_toArray, List.length_set, Array.length_toList, zc_size]
theorem repA_at (V : Value) {i : Nat} (h : i < 256) : (repA V)[i]? = some (.slice none 0 0) := by
  unfold repA
  rw [List.getElem?_toArray, List.getElem?_set_ne (by omega)]
  have key : ∀ i : Fin 256, Tryz.zeroCells108.toList[i.val]? = some (.slice none 0 0) := by
    intro i
    have hz : Tryz.zeroCells108.toList.take 256 = List.replicate 256 (.slice none 0 0) := by kernel_rfl
    have := congrArg (fun l => l[i.val]?) hz
    simp only [List.getElem?_take, i.isLt, if_true, List.getElem?_replicate] at this
    exact this
  exact key ⟨i, h⟩
theorem repA_last (V : Value) : (repA V)[256]? = some V := by
  unfold repA
  rw [List.getElem?_toArray, List.getElem?_set_self]
  rw [Array.length_toList, zc_size]
  decide
theorem rep_store (w : World) (V : Value) (hV : V.oneCell' = true) : (storeCells ⟨w.heap.size, 0, none⟩ (Tryz.zeroCells108.toList.set 256 V)).run Tryz.prog (w.alloc (.cells Tryz.zeroCells108 108)) = .ok () (w.alloc (.cells (repA V) 108)) := by
  have h1 : (repA V).all (·.oneCell') = true := by
    unfold repA
    rw [List.all_toArray, List.all_eq_true]
    intro x hx
    rcases List.mem_or_eq_of_mem_set hx with h | h
    · exact List.all_eq_true.1 zc_one x h
    · rw [h]; exact hV
  exact run_storeCells_new w 108 _ (repA V) (by rw [repA_size]; exact rep_info) (by rw [repA_size, zc_size]) h1
theorem put_last {cs : Array Value} {u : Value} (h : cs.size = 257) : (cs.setIfInBounds 256 u)[256]? = some u := by
  rw [Array.getElem?_setIfInBounds_self_of_lt (by omega)]
theorem one_byte (w : World) (o : UInt8) (v : Int) (hv : v = (o.toNat : Int)) : (convert 32 9 (.slice (some ⟨w.heap.size, 0, none⟩) 1 1)).run Tryz.prog (w.alloc (.cells #[.int .u8 v] 5)) = .ok (.string ⟨#[o]⟩) (w.alloc (.cells #[.int .u8 v] 5)) := by
  subst hv
  refine run_convert_bytes_back _ 32 9 5 ⟨w.heap.size, 0, none⟩ 1 [o] Tryz.underlying32 Tryz.underlying5 Tryz.underlying9 ?_
  intro j hj
  obtain rfl : j = 0 := by simp at hj; omega
  exact (G.Blk.new w 5 #[.int .u8 (o.toNat : Int)]).cell 0
/-- Where the building stands: the replacer's block, the bytes that it replaces, what has been made. -/
structure RB (w W : World) (B Z k : Nat) (strs : List Value) (cs : Array Value) (L : List (Nat × ByteArray)) : Prop where
  blk : G.Blk W B 108 cs
  own : W.ownsRow w.heap.size 9 1 (.slice (some ⟨Z, 0, none⟩) k 2) k strs
  bel : Below w.heap.size w W
  ne : B ≠ Z
  leB : w.heap.size ≤ B
  leZ : w.heap.size ≤ Z
  ents : ∀ p ∈ L, w.heap.size ≤ p.1 ∧ p.1 < W.heap.size ∧ p.1 ≠ B ∧ p.1 ≠ Z ∧ Lib.Bytes W p.1 0 p.2
section
variable {w W W' : World} {B Z k : Nat} {strs : List Value} {cs : Array Value} {L : List (Nat × ByteArray)}
theorem bytes_same {b : Nat} {s : ByteArray} (h : Lib.Bytes W b 0 s) (hb : W'.heap[b]? = W.heap[b]?) : Lib.Bytes W' b 0 s := fun i hi => (World.cell?_of_block (w := W) (a := ⟨b, 0 + i, none⟩) hb).trans (h i hi)
theorem RB.later (h : RB w W B Z k strs cs L) (hb : Below W.heap.size W W') : RB w W' B Z k strs cs L :=
  ⟨h.blk.below hb h.blk.lt, G.own_below h.own hb, h.bel.trans (hb.mono h.bel.size), h.ne, h.leB, h.leZ, fun p hp => by
    obtain ⟨a, b, c, d, e⟩ := h.ents p hp
    exact ⟨a, Nat.lt_of_lt_of_le b hb.size, c, d, bytes_same e (hb.block _ b)⟩⟩
theorem RB.put (h : RB w W B Z k strs cs L) (i : Nat) (u : Value) : RB w (W.setCell ⟨B, i, none⟩ u) B Z k strs (cs.setIfInBounds i u) L :=
  ⟨h.blk.put i u, h.own.kept (row := some B) ⟨rfl, rfl, rfl, by simp, fun j hj hne => Below.heap_setCell W ⟨B, i, none⟩ u j (fun e => hne (by rw [e]))⟩ (.inr (fun e => h.ne (Option.some.inj e).symm)), h.bel.setCell h.leB u, h.ne, h.leB, h.leZ, fun p hp => by
    obtain ⟨a, b, c, d, e⟩ := h.ents p hp
    exact ⟨a, by simpa using b, c, d, bytes_same e (Below.heap_setCell W ⟨B, i, none⟩ u _ c)⟩⟩
theorem RB.grow {o1 o2 : Obj} {k' : Nat} {strs' : List Value} (h : RB w W B Z k strs cs L) (hown : W'.ownsRow w.heap.size 9 1 (.slice (some ⟨Z, 0, none⟩) k' 2) k' strs') (hg : ((W.alloc o1).alloc o2).grownBy W' (some Z)) : RB w W' B Z k' strs' cs L := by
  have h2 := (h.later (W' := (W.alloc o1).alloc o2) (G.bl_alloc (G.bl_alloc (Below.refl _ _) _) _))
  refine ⟨h2.blk.same (hg.block B h2.blk.lt fun e => h.ne (Option.some.inj e)), hown, h2.bel.grown hg h2.bel.size fun g hg' => by cases hg'; exact h.leZ, h.ne, h.leB, h.leZ, fun p hp => ?_⟩
  obtain ⟨a, b, c, d, e⟩ := h2.ents p hp
  exact ⟨a, Nat.lt_of_lt_of_le b hg.size, c, d, bytes_same e (hg.block _ b fun e => d (Option.some.inj e))⟩
theorem bytes_row (W : World) (s : ByteArray) (c : Nat) (fr : Nat × Nat) : Lib.Bytes (W.alloc (.cells (bytesRow s c) 5 fr)) W.heap.size 0 s := fun i hi => by
  rw [Nat.zero_add, cell_of_row _ _ i _ _ fr (heap_alloc_new W _)]
  unfold bytesRow
  rw [Array.getElem?_append_left (by rw [Array.size_map]; exact hi), Array.getElem?_map, Array.getElem?_eq_getElem (show i < s.data.size from hi)]
  rfl
theorem RB.bytes (h : RB w W B Z k strs cs L) (s : ByteArray) : ∃ gc W', (convert 9 32 (.string s)).run Tryz.prog W = .ok (.slice (some ⟨W.heap.size, 0, none⟩) s.size gc) W' ∧ RB w W' B Z k strs cs (L ++ [(W.heap.size, s)]) := by
  refine ⟨_, _, run_bytes_of_string (P := Tryz.prog) W 9 32 5 s Tryz.underlying9 Tryz.underlying32 Tryz.underlying5, ?_⟩
  have hb : Below W.heap.size W (W.drew.alloc (.cells (bytesRow s (grownCap W s.size 0 5)) 5 ((bytesRow s (grownCap W s.size 0 5)).size, (bytesRow s (grownCap W s.size 0 5)).size + 1))) := G.bl_alloc ((Below.refl _ _).drew) _
  have h2 := h.later hb
  refine ⟨h2.blk, h2.own, h2.bel, h2.ne, h2.leB, h2.leZ, fun p hp => ?_⟩
  rcases List.mem_append.1 hp with hp | hp
  · exact h2.ents p hp
  · obtain rfl := List.mem_singleton.1 hp
    have hlt := h.blk.lt
    have hZ : Z < W.heap.size := (h.own.lt Z rfl).2
    exact ⟨h.bel.size, by simp, by simp only; omega, by simp only; omega, bytes_row W.drew s _ _⟩
end
/-- A replacer of quotes and backslashes that has been built. -/
def RepIn (n : Nat) (w : World) (B : Nat) : Prop :=
  ∃ (cs : Array Value) (x1 g1 x2 g2 Z : Nat), (n ≤ B ∧ n ≤ x1 ∧ n ≤ x2 ∧ n ≤ Z) ∧ G.Blk w B 108 cs ∧ cs[34]? = some (.slice (some ⟨x1, 0, none⟩) 2 g1) ∧ cs[92]? = some (.slice (some ⟨x2, 0, none⟩) 2 g2) ∧
    (∀ i, i < 256 → i ≠ 34 → i ≠ 92 → cs[i]? = some (.slice none 0 0)) ∧ cs[256]? = some (.slice (some ⟨Z, 0, none⟩) 2 2) ∧ G.RdV w Z 0 [.string ⟨#[34]⟩, .string ⟨#[92]⟩] ∧
    (x1 < w.heap.size ∧ Lib.Bytes w x1 0 ⟨#[92, 34]⟩) ∧ (x2 < w.heap.size ∧ Lib.Bytes w x2 0 ⟨#[92, 92]⟩)
theorem RepIn.keep {n : Nat} {w w' : World} {B : Nat} (h : RepIn n w B) (hs : w.heap.size ≤ w'.heap.size) (hb : ∀ b, n ≤ b → b < w.heap.size → w'.heap[b]? = w.heap[b]?) : RepIn n w' B := by
  obtain ⟨cs, x1, g1, x2, g2, Z, ⟨n1, n2, n3, n4⟩, h1, h2, h3, h4, h5, h6, ⟨a1, a2⟩, ⟨b1, b2⟩⟩ := h
  exact ⟨cs, x1, g1, x2, g2, Z, ⟨n1, n2, n3, n4⟩, h1.same (hb _ n1 h1.lt), h2, h3, h4, h5, h6.keep (Nat.lt_of_lt_of_le h6.1 hs) (hb _ n4 h6.1), ⟨Nat.lt_of_lt_of_le a1 hs, bytes_same a2 (hb _ n2 a1)⟩, ⟨Nat.lt_of_lt_of_le b1 hs, bytes_same b2 (hb _ n3 b1)⟩⟩
theorem RepIn.below {n : Nat} {w w' : World} {B : Nat} (h : RepIn n w B) (hb : Below w.heap.size w w') : RepIn n w' B := h.keep hb.size fun b _ h2 => hb.block b h2
def BuildPost (w : World) (e : Ending) (w' : World) : Prop := ∃ B, e = .returned (.iface 109 (.pointer (some ⟨B, 0, none⟩))) ∧ RepIn w.heap.size w' B ∧ Below w.heap.size w w'
theorem build_end {w W : World} {B Z x1 x2 g1 g2 : Nat} (h : RB w W B Z 2 ([.string ⟨#[34]⟩] ++ [.string ⟨#[92]⟩]) (((((repA (.slice (some ⟨Z, 0, none⟩) 0 2)).setIfInBounds 256 (.slice (some ⟨Z, 0, none⟩) 1 2)).setIfInBounds 34 (.slice (some ⟨x1, 0, none⟩) 2 g1)).setIfInBounds 256 (.slice (some ⟨Z, 0, none⟩) 2 2)).setIfInBounds 92 (.slice (some ⟨x2, 0, none⟩) 2 g2)) (([] ++ [(x1, ⟨#[92, 34]⟩)]) ++ [(x2, ⟨#[92, 92]⟩)])) :
    BuildPost w (.returned (.iface 109 (.pointer (some ⟨B, 0, none⟩)))) W := by
  have hs : ∀ V, (repA V).size = 257 := repA_size
  have e1 := h.ents (x1, ⟨#[92, 34]⟩) (by simp)
  have e2 := h.ents (x2, ⟨#[92, 92]⟩) (by simp)
  refine ⟨B, rfl, ⟨_, x1, g1, x2, g2, Z, ⟨h.leB, e1.1, e2.1, h.leZ⟩, h.blk, ?_, ?_, fun i h1 h2 h3 => ?_, ?_, ?_, ⟨e1.2.1, e1.2.2.2.2⟩, ⟨e2.2.1, e2.2.2.2.2⟩⟩, h.bel⟩
  · rw [Array.getElem?_setIfInBounds_ne (by decide), Array.getElem?_setIfInBounds_ne (by decide), Array.getElem?_setIfInBounds_self_of_lt (by simp [hs])]
  · rw [Array.getElem?_setIfInBounds_self_of_lt (by simp [hs])]
  · rw [Array.getElem?_setIfInBounds_ne (by omega), Array.getElem?_setIfInBounds_ne (by omega), Array.getElem?_setIfInBounds_ne (by omega), Array.getElem?_setIfInBounds_ne (by omega), repA_at _ h1]
  · rw [Array.getElem?_setIfInBounds_ne (by decide), Array.getElem?_setIfInBounds_self_of_lt (by simp [hs])]
  · exact ((G.RdS.of_own h.own).2 (by decide)).elim fun b ⟨o, e, hr⟩ => by cases e; exact hr
theorem infoStr : (Tryz.prog.info? 9).map (fun i => (i.zero, i.size, i.bytes)) = some (some (.string ⟨#[]⟩), 1, 16) := by kernel_rfl
set_option maxRecDepth 1000000 in
set_option maxHeartbeats 4000000 in
theorem build_any (r a cap : Nat) (w : World) (hc : w.cell? ⟨r, 4, none⟩ = some (.slice (some ⟨a, 0, none⟩) 4 cap)) (h0 : w.cell? ⟨a, 0, none⟩ = some (.string ⟨#[92]⟩)) (h1 : w.cell? ⟨a, 1, none⟩ = some (.string ⟨#[92, 92]⟩))
    (h2 : w.cell? ⟨a, 2, none⟩ = some (.string ⟨#[34]⟩)) (h3 : w.cell? ⟨a, 3, none⟩ = some (.string ⟨#[92, 34]⟩)) :
    Calls Tryz.prog 46 #[.pointer (some ⟨r, 0, none⟩)] w (BuildPost w) := by
  have hmk : ∀ w : World, (Instr.makeSlice 55 (.int .i64 0) (.int .i64 2)).run Tryz.prog w = .ok (.slice (some ⟨w.heap.size, 0, none⟩) 0 2) (w.alloc (.cells #[.string ⟨#[]⟩, .string ⟨#[]⟩] 9)) := fun _ => by kernel_rfl
  have hst := rep_store (w.alloc (.cells #[.string ⟨#[]⟩, .string ⟨#[]⟩] 9)) (.slice (some ⟨w.heap.size, 0, none⟩) 0 2) rfl
  rw [show (w.alloc (.cells #[.string ⟨#[]⟩, .string ⟨#[]⟩] 9)).heap.size = w.heap.size + 1 by simp] at hst
  go_enter Tryz.func46, Tryz.ntmps46
  go_wp2_with fail
  go_rounds 4
  obtain ⟨w1, hw1⟩ : ∃ w1, w1 = (w.alloc (.cells #[.string ⟨#[]⟩, .string ⟨#[]⟩] 9)).alloc (.cells (repA (.slice (some ⟨w.heap.size, 0, none⟩) 0 2)) 108) := ⟨_, rfl⟩
  obtain ⟨B, hB⟩ : ∃ B, B = w.heap.size + 1 := ⟨_, rfl⟩
  obtain ⟨Z, hZ⟩ : ∃ Z, Z = w.heap.size := ⟨_, rfl⟩
  have hb1 : Below w.heap.size w w1 := by rw [hw1]; exact G.bl_alloc (G.bl_alloc (Below.refl _ _) _) _
  have HRw1 := Lib.hid (show RB w w1 B Z 0 [] (repA (.slice (some ⟨Z, 0, none⟩) 0 2)) [] by
    have hz := (G.Blk.new w 9 #[.string ⟨#[]⟩, .string ⟨#[]⟩]).below (G.bl_alloc (Below.refl _ _) (.cells (repA (.slice (some ⟨w.heap.size, 0, none⟩) 0 2)) 108)) (by simp)
    have hb := G.Blk.new (w.alloc (.cells #[.string ⟨#[]⟩, .string ⟨#[]⟩] 9)) 108 (repA (.slice (some ⟨w.heap.size, 0, none⟩) 0 2))
    rw [show (w.alloc (.cells #[.string ⟨#[]⟩, .string ⟨#[]⟩] 9)).heap.size = w.heap.size + 1 by simp] at hb
    rw [hw1, hB, hZ]
    exact ⟨hb, hz.own (Nat.le_refl _) (Nat.zero_le _) (by unfold maxLen; omega) rfl, G.bl_alloc (G.bl_alloc (Below.refl _ _) _) _, by omega, by omega, Nat.le_refl _, fun p hp => by cases hp⟩)
  have HAS := Lib.hid (fun W (h : Below w.heap.size w W) i v (hv : w.cell? ⟨a, i, none⟩ = some v) => (h.cell (p := ⟨a, i, none⟩) (World.block_lt_of_cell? _ _ hv)).trans hv)
  have HA0 := Lib.hid h0
  have HA1 := Lib.hid h1
  have HA2 := Lib.hid h2
  have HA3 := Lib.hid h3
  rw [← hw1, ← hB]
  have HCOw1 := Lib.hid (show (repA (.slice (some ⟨Z, 0, none⟩) 0 2))[34]? = some (.slice none 0 0) from repA_at _ (by omega))
  have HC6w1 := Lib.hid (show (repA (.slice (some ⟨Z, 0, none⟩) 0 2))[256]? = some (.slice (some ⟨Z, 0, none⟩) 0 2) from repA_last _)
  have hnil := fun (w : World) (A : Option Addr) (n c : Nat) => Lib.run_eql_slice_nil (P := Tryz.prog) w 32 5 A n c 0 0 Tryz.underlying32
  obtain ⟨i0, hinf, hz0, hz1, hz2⟩ := info_parts infoStr
  clear hw1 hB hZ hb1 hst hmk hc h0 h1 h2 h3
  have e34 : ∀ h, (((⟨#[34]⟩ : ByteArray)[0]'h).toNat : Int) = 34 := fun _ => rfl
  have e92 : ∀ h, (((⟨#[92]⟩ : ByteArray)[0]'h).toNat : Int) = 92 := fun _ => rfl
  refine wp_loop_rounds 3 ?_
  -- the byte 34
  rw [rounds_succ]
  have l256 := HRw1.out.blk.frozen 256
  have co := (HRw1.out.blk.cell 34).trans HCOw1.out
  have c256 := (HRw1.out.blk.cell 256).trans HC6w1.out
  have hA0 := HAS.out w1 HRw1.out.bel 0 _ HA0.out
  have hA1 := HAS.out w1 HRw1.out.bel 1 _ HA1.out
  have hA2 := HAS.out w1 HRw1.out.bel 2 _ HA2.out
  have hA3 := HAS.out w1 HRw1.out.bel 3 _ HA3.out
  have hcv := one_byte w1 34 34 (by decide)
  go_upto_region 34 with (at_builtin; refine wpList_append_fits _ rfl (.tmp 119) (.tmp 123) 55 rfl w.heap.size 9 i0 1 Tryz.underlying55 hinf hz1 Z 0 2 [] rfl ((HRw1.out.own.alloc _).alloc _) ⟨w1.heap.size + 1, 0, none⟩ 1 1 [.string ⟨#[34]⟩] rfl rfl (G.cells_new _ _ _ _ (by simp)) (by intro u hu; simp at hu; subst hu; rfl) (by omega) ?_; intro w1a hown hgr; have HRw1a := Lib.hid (HRw1.out.grow hown hgr); clear hown hgr; have c256a := (HRw1a.out.blk.cell 256).trans HC6w1.out; have l256a := HRw1a.out.blk.frozen 256)
  obtain ⟨w1d, hn⟩ : ∃ W', W' = w1a.setCell ⟨B, 256, none⟩ (.slice (some ⟨Z, 0, none⟩) 1 2) := ⟨_, rfl⟩
  have HRw1d := Lib.hid (show RB w w1d B Z 1 _ ((repA (.slice (some ⟨Z, 0, none⟩) 0 2)).setIfInBounds 256 (.slice (some ⟨Z, 0, none⟩) 1 2)) _ by rw [hn]; exact HRw1a.out.put 256 _)
  rw [← hn]
  clear hn hcv co c256 l256 hA0 hA1 hA2 hA3 c256a l256a
  obtain ⟨gc0, w1e, hby, hRe⟩ := HRw1d.out.bytes ⟨#[92, 34]⟩
  change (convert _ _ _).run _ _ = .ok (.slice _ 2 _) _ at hby
  have HRw1e := Lib.hid hRe
  have HCOw1d := Lib.hid (show ((repA (.slice (some ⟨Z, 0, none⟩) 0 2)).setIfInBounds 256 (.slice (some ⟨Z, 0, none⟩) 1 2))[34]? = some (.slice none 0 0) by rw [Array.getElem?_setIfInBounds_ne (by decide)]; exact HCOw1.out)
  have coe := (HRw1e.out.blk.cell 34).trans HCOw1d.out
  have loe := HRw1e.out.blk.frozen 34
  clear hRe
  obtain ⟨w2, hn⟩ : ∃ W', W' = w1e.setCell ⟨B, 34, none⟩ (.slice (some ⟨w1d.heap.size, 0, none⟩) 2 gc0) := ⟨_, rfl⟩
  have HRw2 := Lib.hid (show RB w w2 B Z 1 _ (((repA (.slice (some ⟨Z, 0, none⟩) 0 2)).setIfInBounds 256 (.slice (some ⟨Z, 0, none⟩) 1 2)).setIfInBounds 34 (.slice (some ⟨w1d.heap.size, 0, none⟩) 2 gc0)) _ by rw [hn]; exact HRw1e.out.put 34 _)
  go_wp2_with fail
  rw [← hn]
  clear hn hby coe loe
  have HCOw2 := Lib.hid (show (((repA (.slice (some ⟨Z, 0, none⟩) 0 2)).setIfInBounds 256 (.slice (some ⟨Z, 0, none⟩) 1 2)).setIfInBounds 34 (.slice (some ⟨w1d.heap.size, 0, none⟩) 2 gc0))[92]? = some (.slice none 0 0) by rw [Array.getElem?_setIfInBounds_ne (by decide)]; rw [Array.getElem?_setIfInBounds_ne (by decide)]; exact repA_at _ (by omega))
  have HC6w2 := Lib.hid (show (((repA (.slice (some ⟨Z, 0, none⟩) 0 2)).setIfInBounds 256 (.slice (some ⟨Z, 0, none⟩) 1 2)).setIfInBounds 34 (.slice (some ⟨w1d.heap.size, 0, none⟩) 2 gc0))[256]? = some (.slice (some ⟨Z, 0, none⟩) 1 2) by rw [Array.getElem?_setIfInBounds_ne (by decide)]; exact put_last (repA_size _))
  -- the byte 92
  rw [rounds_succ]
  have l256 := HRw2.out.blk.frozen 256
  have co := (HRw2.out.blk.cell 92).trans HCOw2.out
  have c256 := (HRw2.out.blk.cell 256).trans HC6w2.out
  have hA0 := HAS.out w2 HRw2.out.bel 0 _ HA0.out
  have hA1 := HAS.out w2 HRw2.out.bel 1 _ HA1.out
  have hA2 := HAS.out w2 HRw2.out.bel 2 _ HA2.out
  have hA3 := HAS.out w2 HRw2.out.bel 3 _ HA3.out
  have hcv := one_byte w2 92 92 (by decide)
  go_upto_region 34 with (at_builtin; refine wpList_append_fits _ rfl (.tmp 119) (.tmp 123) 55 rfl w.heap.size 9 i0 1 Tryz.underlying55 hinf hz1 Z 1 2 [.string ⟨#[34]⟩] rfl ((HRw2.out.own.alloc _).alloc _) ⟨w2.heap.size + 1, 0, none⟩ 1 1 [.string ⟨#[92]⟩] rfl rfl (G.cells_new _ _ _ _ (by simp)) (by intro u hu; simp at hu; subst hu; rfl) (by omega) ?_; intro w2a hown hgr; have HRw2a := Lib.hid (HRw2.out.grow hown hgr); clear hown hgr; have c256a := (HRw2a.out.blk.cell 256).trans HC6w2.out; have l256a := HRw2a.out.blk.frozen 256)
  obtain ⟨w2d, hn⟩ : ∃ W', W' = w2a.setCell ⟨B, 256, none⟩ (.slice (some ⟨Z, 0, none⟩) 2 2) := ⟨_, rfl⟩
  have HRw2d := Lib.hid (show RB w w2d B Z 2 _ ((((repA (.slice (some ⟨Z, 0, none⟩) 0 2)).setIfInBounds 256 (.slice (some ⟨Z, 0, none⟩) 1 2)).setIfInBounds 34 (.slice (some ⟨w1d.heap.size, 0, none⟩) 2 gc0)).setIfInBounds 256 (.slice (some ⟨Z, 0, none⟩) 2 2)) _ by rw [hn]; exact HRw2a.out.put 256 _)
  rw [← hn]
  clear hn hcv co c256 l256 hA0 hA1 hA2 hA3 c256a l256a
  obtain ⟨gc1, w2e, hby, hRe⟩ := HRw2d.out.bytes ⟨#[92, 92]⟩
  change (convert _ _ _).run _ _ = .ok (.slice _ 2 _) _ at hby
  have HRw2e := Lib.hid hRe
  have HCOw2d := Lib.hid (show ((((repA (.slice (some ⟨Z, 0, none⟩) 0 2)).setIfInBounds 256 (.slice (some ⟨Z, 0, none⟩) 1 2)).setIfInBounds 34 (.slice (some ⟨w1d.heap.size, 0, none⟩) 2 gc0)).setIfInBounds 256 (.slice (some ⟨Z, 0, none⟩) 2 2))[92]? = some (.slice none 0 0) by rw [Array.getElem?_setIfInBounds_ne (by decide)]; exact HCOw2.out)
  have coe := (HRw2e.out.blk.cell 92).trans HCOw2d.out
  have loe := HRw2e.out.blk.frozen 92
  clear hRe
  obtain ⟨w3, hn⟩ : ∃ W', W' = w2e.setCell ⟨B, 92, none⟩ (.slice (some ⟨w2d.heap.size, 0, none⟩) 2 gc1) := ⟨_, rfl⟩
  have HRw3 := Lib.hid (show RB w w3 B Z 2 _ (((((repA (.slice (some ⟨Z, 0, none⟩) 0 2)).setIfInBounds 256 (.slice (some ⟨Z, 0, none⟩) 1 2)).setIfInBounds 34 (.slice (some ⟨w1d.heap.size, 0, none⟩) 2 gc0)).setIfInBounds 256 (.slice (some ⟨Z, 0, none⟩) 2 2)).setIfInBounds 92 (.slice (some ⟨w2d.heap.size, 0, none⟩) 2 gc1)) _ by rw [hn]; exact HRw2e.out.put 92 _)
  go_wp2_with fail
  rw [← hn]
  clear hn hby coe loe
  rw [rounds_succ]
  go_wp2_with fail
  go_ret
  exact build_end HRw3.out
end Go.Proofs.YtlaikgaepaiigaaGreatDoor.K

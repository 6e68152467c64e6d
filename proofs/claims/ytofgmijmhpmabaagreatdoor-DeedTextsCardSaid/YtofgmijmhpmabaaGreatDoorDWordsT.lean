/- Some words and numbers as a text: the contract of deed.words. -/
import Derived.Test.YtofgmijmhpmabaaGreatDoorProg
import Derived.Test.YtofgmijmhpmabaaGreatDoorWords
import Derived.WalkSpells
import Derived.WalkLawsBesides
import Derived.Lib.Builder
import Derived.Lib.OthersKept
import Derived.Lib.AppendStr
import Derived.Test.YtofgmijmhpmabaaGreatDoorDShelfI
import Derived.Test.YtofgmijmhpmabaaGreatDoorDMem
import Derived.Test.YtofgmijmhpmabaaGreatDoorDCheckW
import Derived.Lib.ItoaLen
import Derived.Lib.SmallJoins
namespace Go.Proofs.YtofgmijmhpmabaaGreatDoor.D
open Go Go.RowKit
set_option linter.unusedVariables false
set_option linter.unusedSimpArgs false
theorem sizeBuilder : (Tryz.prog.info? 187).map (fun j => j.size) = some 2 := by kernel_rfl
theorem info5b : (Tryz.prog.info? 5).map (fun i => (i.zero, i.size, i.bytes)) = some (some (.int .u8 0), 1, 1) := by kernel_rfl
set_option maxHeartbeats 1000000 in
set_option maxRecDepth 100000 in
theorem copyCheck_used (b : Nat) (w : World) (h0 : w.cell? ⟨b, 0, none⟩ = some (.pointer (some ⟨b, 0, none⟩))) :
    Calls Tryz.prog 192 #[.pointer (some ⟨b, 0, none⟩)] w fun e w' => e = .returned (.tuple #[]) ∧ w' = w := by
  obtain ⟨j, hj, _⟩ := Option.map_eq_some_iff.1 sizeBuilder
  go_enter Tryz.func192, Tryz.ntmps192
  go_wp2
  rw [Lib.run_neq_ptr_same w _ Tryz.underlying185 hj]
  go_wp2
  go_end0
  exact ⟨rfl, rfl⟩
theorem liesBuilder : liesAt Tryz.prog Tryz.prog.depth 187 (2 / Tryz.prog.cellsOf 187) 0 187 1 = true := by kernel_rfl
set_option maxHeartbeats 1000000 in
set_option maxRecDepth 100000 in
theorem copyCheck_fresh (b : Nat) (w : World) (h0 : w.cell? ⟨b, 0, none⟩ = some (.pointer none)) (hsh : w.shape? b = some (187, 2)) (hfz : w.frozen? ⟨b, 0, none⟩ = false) :
    Calls Tryz.prog 192 #[.pointer (some ⟨b, 0, none⟩)] w fun e w' => e = .returned (.tuple #[]) ∧ w' = w.setCell ⟨b, 0, none⟩ (.pointer (some ⟨b, 0, none⟩)) := by
  obtain ⟨j, hj, hjs⟩ := Option.map_eq_some_iff.1 sizeBuilder
  go_enter Tryz.func192, Tryz.ntmps192
  go_wp2
  rw [Lib.run_to_unsafe w ⟨b, 0, none⟩ Tryz.underlying185 Tryz.underlying230 hj (by rw [hjs]; decide) hsh (Nat.zero_lt_succ 1)]
  simp only [Result.andThen]
  rw [Oper.upon_value]
  go_wp2
  rw [run_callFunc_extern Tryz.func202 (by kernel_rfl) (by kernel_rfl) (by kernel_rfl) (e := Extern.AbiNoEscape.same) (by kernel_rfl)]
  rw [Lib.run_noEscape]
  simp only [Result.andThen]
  rw [Oper.upon_value]
  go_wp2
  rw [Lib.run_from_unsafe w ⟨b, 0, none⟩ Tryz.underlying230 Tryz.underlying185 hj hsh liesBuilder]
  simp only [Result.andThen]
  rw [Oper.upon_value]
  go_wp2
  go_end0
  exact ⟨rfl, rfl⟩
theorem copyCheck (B b : Nat) (bs : List Value) (w : World) (h : Lib.IsBuilder 187 5 B b bs w) :
    Calls Tryz.prog 192 #[.pointer (some ⟨b, 0, none⟩)] w fun e w' => e = .returned (.tuple #[]) ∧ (Lib.BuilderAt 187 5 B b (.pointer (some ⟨b, 0, none⟩)) bs w' ∧ Below B w w' ∧ Lib.OthersKept 5 (some b) w w') := by
  rcases h with h | h
  · refine (copyCheck_fresh b w h.cell0 h.shape h.frozen0).mono ?_
    rintro e w' ⟨rfl, rfl⟩
    exact ⟨rfl, h.used _, (Below.refl B w).setCell (p := ⟨b, 0, none⟩) h.1 _, (Lib.OthersKept.refl 5 (some b) w).setCell ⟨b, 0, none⟩ rfl _⟩
  · refine (copyCheck_used b w h.cell0).mono ?_
    rintro e w' ⟨rfl, rfl⟩
    exact ⟨rfl, h, Below.refl B _, Lib.OthersKept.refl _ _ _⟩
theorem row_block {w : World} {B : Nat} {v : Value} {n : Nat} {xs : List Value} (h : w.ownsRow B 5 1 v n xs) : ∀ g, v.ownBlock = some g → ∃ c fz, w.heap[g]? = some (.cells c 5 fz) := by
  intro g hg
  rcases h.2 with ⟨rfl, _⟩ | ⟨g', cap, cur, rfl, _, hgg, _⟩
  · simp [Value.ownBlock] at hg
  · simp [Value.ownBlock] at hg; subst hg; exact ⟨_, _, hgg⟩
def WrPost (B b : Nat) (bs : List Value) (w : World) (w' : World) : Prop :=
  Lib.BuilderAt 187 5 B b (.pointer (some ⟨b, 0, none⟩)) bs w' ∧ Below B w w' ∧ Lib.OthersKept 5 (some b) w w'
set_option maxHeartbeats 2000000 in
set_option maxRecDepth 100000 in
theorem WriteString (B b : Nat) (bs : List Value) (s : ByteArray) (w : World) (h : Lib.IsBuilder 187 5 B b bs w) (hlen : bs.length + s.size ≤ 140737488355328) (hBw : B ≤ w.heap.size) :
    Calls Tryz.prog 134 #[.pointer (some ⟨b, 0, none⟩), .string s] w fun e w' => e = .returned (.tuple #[.int .i64 s.size, .nilIface]) ∧ WrPost B b (bs ++ Lib.strCells s) w w' := by
  obtain ⟨i0, hi, hz0, hz1, hz2⟩ := info_parts info5b
  go_enter Tryz.func134, Tryz.ntmps134
  go_wp2_with (go_at_call 192; refine (copyCheck B b bs _ h).mono ?_)
  rintro e w1 ⟨rfl, h1, hb1, ho1⟩
  obtain ⟨hB, v, hbk, hown, hne⟩ := h1
  have c0 : w1.cell? ⟨b, 0, none⟩ = some (.pointer (some ⟨b, 0, none⟩)) := by rw [Lib.cell_of_heap hbk]; rfl
  have c1 : w1.cell? ⟨b, 1, none⟩ = some v := by rw [Lib.cell_of_heap hbk]; rfl
  go_wp2_with (at_builtin; refine Lib.wpList_append_own_string _ rfl _ _ 144 9 rfl B 5 i0 Tryz.underlying144 Tryz.underlying9 hi hz0 hz1 hz2 _ _ _ rfl hown s rfl ?c3 ?c4 ?c5 ?_)
  case c3 => unfold maxLen; omega
  case c4 => omega
  case c5 => have := hb1.size; omega
  intro v' w2 hown' hgrow _
  have hlt : b < w1.heap.size := by
    rcases Nat.lt_or_ge b w1.heap.size with h' | h'
    · exact h'
    · simp [Array.getElem?_eq_none h'] at hbk
  have hb2 : w2.heap[b]? = some (.cells #[.pointer (some ⟨b, 0, none⟩), v] 187 (0, 0)) := by
    rw [hgrow.block b hlt (fun e => hne e.symm)]
    exact hbk
  have d0 : w2.cell? ⟨b, 0, none⟩ = some (.pointer (some ⟨b, 0, none⟩)) := by rw [Lib.cell_of_heap hb2]; rfl
  have d1 : w2.cell? ⟨b, 1, none⟩ = some v := by rw [Lib.cell_of_heap hb2]; rfl
  have f1 : w2.frozen? ⟨b, 1, none⟩ = false := Lib.frozen_of_heap hb2 1
  have ho2 := ho1.grown hgrow (row_block hown)
  obtain ⟨ao, n', cap, rfl⟩ : ∃ ao n' cap, v' = .slice ao n' cap := by
    rcases hown'.2 with ⟨hv, _⟩ | ⟨g, cap, cur, hv, _⟩
    · exact ⟨_, _, _, hv⟩
    · exact ⟨_, _, _, hv⟩
  go_wp2
  go_ret2
  refine ⟨rfl, ?_, ?_, ?_⟩
  · exact Lib.BuilderAt.put (T := 187) (e := 5) hB hb2 (bs' := bs ++ Lib.strCells s) (by simpa [Lib.strCells_length] using hown') (by decide)
  · exact (hb1.grown hgrow (by have := hb1.size; omega) (fun k hk => (hown.lt k hk).1)).setCell (p := ⟨b, 1, none⟩) hB _
  · exact ho2.setCell _ rfl _
set_option maxHeartbeats 2000000 in
set_option maxRecDepth 100000 in
theorem WriteByte (B b : Nat) (bs : List Value) (c : Int) (w : World) (h : Lib.IsBuilder 187 5 B b bs w) (hlen : bs.length + 1 ≤ 140737488355328) (hBw : B ≤ w.heap.size) :
    Calls Tryz.prog 133 #[.pointer (some ⟨b, 0, none⟩), .int .u8 c] w fun e w' => e = .returned .nilIface ∧ WrPost B b (bs ++ [.int .u8 c]) w w' := by
  obtain ⟨i0, hi, hz0, hz1, hz2⟩ := info_parts info5b
  go_enter Tryz.func133, Tryz.ntmps133
  go_wp2_with (go_at_call 192; refine (copyCheck B b bs _ h).mono ?_)
  rintro e w1 ⟨rfl, h1, hb1, ho1⟩
  obtain ⟨hB, v, hbk, hown, hne⟩ := h1
  have c0 : w1.cell? ⟨b, 0, none⟩ = some (.pointer (some ⟨b, 0, none⟩)) := by rw [Lib.cell_of_heap hbk]; rfl
  have c1 : w1.cell? ⟨b, 1, none⟩ = some v := by rw [Lib.cell_of_heap hbk]; rfl
  go_wp2_with (at_builtin; refine wpList_append_own _ rfl _ _ 144 rfl B 5 i0 (.int .u8 0) 1 1 Tryz.underlying144 hi hz0 hz1 hz2 rfl (by decide) _ _ _ rfl (hown.alloc _) ⟨w1.heap.size, 0, none⟩ 1 1 [.int .u8 c] rfl rfl ?c1 ?c2 ?c3 ?c4 ?c5 ?_)
  case c1 => exact G.cells_new _ [.int .u8 c] _ _ rfl
  case c2 => intro u hu; simp at hu; subst hu; rfl
  case c3 => unfold maxLen; omega
  case c4 => omega
  case c5 => have := hb1.size; simp; omega
  intro v' w2 hown' hgrow _
  have hlt : b < w1.heap.size := by
    rcases Nat.lt_or_ge b w1.heap.size with h' | h'
    · exact h'
    · simp [Array.getElem?_eq_none h'] at hbk
  have hb2 : w2.heap[b]? = some (.cells #[.pointer (some ⟨b, 0, none⟩), v] 187 (0, 0)) := by
    rw [hgrow.block b (by simp; omega) (fun e => hne e.symm), Lib.alloc_old w1 _ b hlt]
    exact hbk
  have d0 : w2.cell? ⟨b, 0, none⟩ = some (.pointer (some ⟨b, 0, none⟩)) := by rw [Lib.cell_of_heap hb2]; rfl
  have d1 : w2.cell? ⟨b, 1, none⟩ = some v := by rw [Lib.cell_of_heap hb2]; rfl
  have f1 : w2.frozen? ⟨b, 1, none⟩ = false := Lib.frozen_of_heap hb2 1
  have ho2 := (ho1.alloc (.cells #[.int .u8 c] 5)).grown hgrow (row_block (hown.alloc _))
  obtain ⟨g, cap, rfl⟩ : ∃ g cap, v' = .slice (some ⟨g, 0, none⟩) (bs.length + 1) cap := by
    rcases hown'.2 with ⟨_, h0⟩ | ⟨g, cap, cur, hv, _⟩
    · omega
    · exact ⟨g, cap, hv⟩
  go_wp2
  go_ret
  refine ⟨rfl, ?_, ?_, ?_⟩
  · exact Lib.BuilderAt.put (T := 187) (e := 5) hB hb2 (bs' := bs ++ [.int .u8 c]) (by simpa using hown') (by decide)
  · exact ((hb1.alloc (by have := hb1.size; omega) _).grown hgrow (by have := hb1.size; simp; omega) (fun k hk => (hown.lt k hk).1)).setCell (p := ⟨b, 1, none⟩) hB _
  · exact ho2.setCell _ rfl _
end Go.Proofs.YtofgmijmhpmabaaGreatDoor.D
namespace Go.Proofs.YtofgmijmhpmabaaGreatDoor.D
open Go Go.RowKit
set_option linter.unusedVariables false
set_option linter.unusedSimpArgs false
/-- strconv.Itoa in all worlds that follow one. -/
def ItoaIn (w : World) : Prop := ∀ (n : Int) (W : World), -9223372036854775808 ≤ n → n ≤ 9223372036854775807 → Below w.heap.size w W →
  Calls Tryz.prog 96 #[.int .i64 n] W fun e w' => e = .returned (.string ⟨(Lib.itoa n).toArray⟩) ∧ Below W.heap.size W w'
theorem ItoaIn.below {w w' : World} (h : ItoaIn w) (hb : Below w.heap.size w w') : ItoaIn w' := fun n W h0 h1 hW => h n W h0 h1 (G.bl_trans hb hW)
theorem bat_below {B b : Nat} {p : Value} {bs : List Value} {w w' : World} (h : Lib.BuilderAt 187 5 B b p bs w) (hb : Below w.heap.size w w') : Lib.BuilderAt 187 5 B b p bs w' := by
  have hlt := h.lt
  obtain ⟨hB, v, hbk, hown, hne⟩ := h
  exact ⟨hB, v, (hb.block b hlt).trans hbk, G.own_below hown hb, hne⟩
theorem isb_below {B b : Nat} {bs : List Value} {w w' : World} (h : Lib.IsBuilder 187 5 B b bs w) (hb : Below w.heap.size w w') : Lib.IsBuilder 187 5 B b bs w' :=
  h.imp (fun h => bat_below h hb) (fun h => bat_below h hb)
/-- A word or a number. -/
inductive Wd where
  | s (l : List UInt8)
  | n (x : Int)
def Wd.bytes : Wd → List UInt8
  | .s l => l
  | .n x => Lib.itoa x
def Wd.val : Wd → Value
  | .s l => .iface 9 (.string ⟨l.toArray⟩)
  | .n x => .iface 3 (.int .i64 x)
def Wd.Ok : Wd → Prop
  | .s l => l.length ≤ 64
  | .n x => -9223372036854775808 ≤ x ∧ x ≤ 9223372036854775807
theorem Wd.Ok.len : ∀ {a : Wd}, a.Ok → a.bytes.length ≤ 64
  | .s l, h => h
  | .n x, h => Nat.le_trans (Lib.itoa_length_le x h.1 h.2) (by omega)
def wordsL : List Wd → List UInt8
  | [] => []
  | a :: l => a.bytes ++ l.flatMap fun b => 32 :: b.bytes
theorem wordsL_snoc {l : List Wd} {a : Wd} (h : l ≠ []) : wordsL (l ++ [a]) = wordsL l ++ 32 :: a.bytes := by
  cases l with
  | nil => exact absurd rfl h
  | cons b l => simp [wordsL]
theorem wordsL_one (a : Wd) : wordsL ([] ++ [a]) = a.bytes := by simp [wordsL]
theorem wordsL_len : ∀ {l : List Wd}, (∀ a ∈ l, a.Ok) → (wordsL l).length ≤ 65 * l.length
  | [], _ => by simp [wordsL]
  | a :: l, h => by
    have h1 := (h a (by simp)).len
    have h2 : ∀ (m : List Wd), (∀ a ∈ m, a.Ok) → (m.flatMap fun b => 32 :: b.bytes).length ≤ 65 * m.length := by
      intro m
      induction m with
      | nil => simp
      | cons b m ih =>
        intro hm
        have h3 := (hm b (by simp)).len
        have h4 := ih fun a ha => hm a (by simp [ha])
        simp only [List.flatMap_cons, List.length_append, List.length_cons]
        omega
    have h3 := h2 l fun a ha => h a (by simp [ha])
    simp only [wordsL, List.length_append, List.length_cons]
    omega
theorem ta_str (b : ByteArray) (w : World) : (Instr.typeAssert (.iface 9 (.string b)) 20 9 true).run Tryz.prog w = .ok (.tuple #[.string b, .bool true]) w := by kernel_rfl
theorem ta_no (x : Int) (w : World) : (Instr.typeAssert (.iface 3 (.int .i64 x)) 20 9 true).run Tryz.prog w = .ok (.tuple #[.string ⟨#[]⟩, .bool false]) w := by kernel_rfl
theorem ta_int (x : Int) (w : World) : (Instr.typeAssert (.iface 3 (.int .i64 x)) 20 3 true).run Tryz.prog w = .ok (.tuple #[.int .i64 x, .bool true]) w := by kernel_rfl
def StrPost (l : List UInt8) (w : World) (e : Ending) (w' : World) : Prop := e = .returned (.string ⟨l.toArray⟩) ∧ Below w.heap.size w w'
theorem bc_app (l m : List UInt8) : Lib.byteCells (l ++ m) = Lib.byteCells l ++ Lib.byteCells m := by simp [Lib.byteCells]
set_option maxRecDepth 100000 in
set_option maxHeartbeats 4000000 in
theorem words_any (A : Option Addr) (n c : Nat) (l : List Wd) (w : World) (hn : l.length = n) (hr : G.RdS w A 1 n (l.map Wd.val)) (hs : ∀ a ∈ l, a.Ok) (h16 : n ≤ 16) (hit : ItoaIn w) :
    Calls Tryz.prog 95 #[.slice A n c] w (StrPost (wordsL l) w) := by
  have HN := Lib.hid hn
  have HR := Lib.hid hr
  have HS := Lib.hid hs
  have HIT := Lib.hid hit
  clear hn hr hs hit
  go_enter Tryz.func95, Tryz.ntmps95
  have his := Lib.fresh_isBuilder 187 5 w
  have hb0 := G.bl_alloc (Below.refl w.heap.size w) (.cells #[.pointer none, .slice none 0 0] 187)
  have hlt0 : w.heap.size < (w.alloc (.cells #[.pointer none, .slice none 0 0] 187)).heap.size := by simp
  have HIS := Lib.hid his
  have HB0 := Lib.hid hb0
  have HLT := Lib.hid hlt0
  clear his hb0 hlt0
  go_upto_region 3 with (fail)
  go_loopw [10] (fun i wr => ∃ k : Nat, k ≤ n ∧ i = .int .i64 k ∧ Below w.heap.size w wr ∧ w.heap.size < wr.heap.size ∧ Lib.IsBuilder 187 5 w.heap.size w.heap.size (Lib.byteCells (wordsL (l.take k))) wr) (fun i _ => n - (intOf i).toNat)
  case atStart => exact ⟨0, Nat.zero_le _, rfl, HB0.out, HLT.out, HIS.out⟩
  case round =>
    obtain ⟨k, hk, rfl, hbl, hlt, hisb⟩ := hrel
    have HBL := Lib.hid hbl
    have HISB := Lib.hid hisb
    have HLW := Lib.hid hlt
    have hk0 : (0 : Int) ≤ k := by omega
    clear hbl hisb hlt
    by_cases hkn : k < n
    · have hkI : (k : Int) < n := by omega
      obtain ⟨b, off, hA, hrv⟩ := (HR.out.below HBL.out).2 (by omega)
      subst hA
      obtain ⟨a, ha⟩ : ∃ a, l[k]? = some a := ⟨_, List.getElem?_eq_getElem (by rw [HN.out]; exact hkn)⟩
      have hc : wr.cell? ⟨b, off + k, none⟩ = some a.val := by
        rw [hrv.2 k (by rw [List.length_map, HN.out]; exact hkn), List.getD_eq_getElem?_getD, List.getElem?_map, ha]
        rfl
      have hbs := World.block_lt_of_cell? _ _ hc
      have HOK := Lib.hid (HS.out a (List.mem_of_getElem? ha))
      have HTK := Lib.hid (show l.take (k + 1) = l.take k ++ [a] by rw [List.take_add_one, ha]; rfl)
      have HLEN := Lib.hid (show (wordsL (l.take k)).length ≤ 2000 by
        have h1 := wordsL_len (l := l.take k) fun a ha => HS.out a (List.mem_of_mem_take ha)
        have h2 : (l.take k).length ≤ 16 := by rw [List.length_take]; omega
        omega)
      clear hrv ha
      by_cases h0 : k = 0
      · subst h0
        rw [Nat.add_zero] at hc
        have HTK0 := Lib.hid (show wordsL (l.take (0 + 1)) = wordsL (l.take 0) ++ a.bytes by rw [HTK.out]; simp [wordsL])
        cases a with
        | s m =>
          unfold Wd.val at hc
          have hta := ta_str ⟨m.toArray⟩
          have HWS := Lib.hid (WriteString w.heap.size w.heap.size _ ⟨m.toArray⟩ wr HISB.out (by rw [Lib.byteCells_length]; have := HLEN.out; have h2 : m.length ≤ 64 := HOK.out; show _ + m.length ≤ _; omega) HBL.out.size)
          go_wp2_with fail
          refine (HWS.out).mono ?_
          rintro e1 w1 ⟨rfl, hb1, hb2, ho1⟩
          have HI1 := Lib.hid (show Lib.IsBuilder 187 5 w.heap.size w.heap.size (Lib.byteCells (wordsL (l.take (0 + 1)))) w1 from .inr (by rw [HTK0.out]; rw [bc_app]; exact hb1))
          have HB1 := Lib.hid (HBL.out.trans hb2)
          have HL1 := Lib.hid (Nat.lt_of_lt_of_le HLW.out hb2.size)
          clear hb1 hb2 ho1
          go_wp2_with fail
          go_roundw
          case rel => exact ⟨1, by omega, by go_num, HB1.out, HL1.out, HI1.out⟩
          case measure => simp [intOf]; omega
        | n z =>
          unfold Wd.val at hc
          have hta := ta_no z
          have htb := ta_int z
          obtain ⟨z0, z1⟩ := HOK.out
          have HII := Lib.hid (HIT.out z wr z0 z1 HBL.out)
          go_wp2_with fail
          refine (HII.out).mono ?_
          rintro e5 w5 ⟨rfl, hb5⟩
          have HI5 := Lib.hid (isb_below HISB.out hb5)
          have HB5 := Lib.hid (G.bl_trans HBL.out hb5)
          have HL5 := Lib.hid (Nat.lt_of_lt_of_le HLW.out hb5.size)
          have HM := Lib.hid (Nat.le_trans (Lib.itoa_length_le z z0 z1) (show 21 ≤ 64 by omega))
          clear hb5
          have HWS := Lib.hid (WriteString w.heap.size w.heap.size _ ⟨(Lib.itoa z).toArray⟩ w5 HI5.out (by rw [Lib.byteCells_length]; have := HLEN.out; have h2 := HM.out; show _ + (Lib.itoa z).length ≤ _; omega) HB5.out.size)
          go_wp2_with fail
          refine (HWS.out).mono ?_
          rintro e1 w1 ⟨rfl, hb1, hb2, ho1⟩
          have HI1 := Lib.hid (show Lib.IsBuilder 187 5 w.heap.size w.heap.size (Lib.byteCells (wordsL (l.take (0 + 1)))) w1 from .inr (by rw [HTK0.out]; rw [bc_app]; exact hb1))
          have HB1 := Lib.hid (HB5.out.trans hb2)
          have HL1 := Lib.hid (Nat.lt_of_lt_of_le HL5.out hb2.size)
          clear hb1 hb2 ho1
          go_wp2_with fail
          go_roundw
          case rel => exact ⟨1, by omega, by go_num, HB1.out, HL1.out, HI1.out⟩
          case measure => simp [intOf]; omega
      · have h0I : (0 : Int) < k := by omega
        have HTK1 := Lib.hid (show wordsL (l.take (k + 1)) = wordsL (l.take k) ++ 32 :: a.bytes by
          rw [HTK.out]
          refine wordsL_snoc fun h => ?_
          have h1 := congrArg List.length h
          rw [List.length_take, List.length_nil, HN.out] at h1
          omega)
        cases a with
        | s m =>
          unfold Wd.val at hc
          have hta := ta_str ⟨m.toArray⟩
          have HWB := Lib.hid (WriteByte w.heap.size w.heap.size _ 32 wr HISB.out (by rw [Lib.byteCells_length]; have := HLEN.out; omega) HBL.out.size)
          go_wp2_with fail
          refine (HWB.out).mono ?_
          rintro e9 w9 ⟨rfl, hb8, hb9, ho9⟩
          have HIBB := Lib.hid (show Lib.IsBuilder 187 5 w.heap.size w.heap.size (Lib.byteCells (wordsL (l.take k) ++ [32])) w9 from .inr (by rw [bc_app]; exact hb8))
          have HBB := Lib.hid (HBL.out.trans hb9)
          have HLB := Lib.hid (Nat.lt_of_lt_of_le HLW.out hb9.size)
          clear hb8 hb9 ho9
          have HWS := Lib.hid (WriteString w.heap.size w.heap.size _ ⟨m.toArray⟩ w9 HIBB.out (by rw [Lib.byteCells_length]; have := HLEN.out; have h2 : m.length ≤ 64 := HOK.out; show _ + m.length ≤ _; rw [List.length_append, List.length_singleton]; omega) HBB.out.size)
          go_wp2_with fail
          refine (HWS.out).mono ?_
          rintro e1 w1 ⟨rfl, hb1, hb2, ho1⟩
          have HI1 := Lib.hid (show Lib.IsBuilder 187 5 w.heap.size w.heap.size (Lib.byteCells (wordsL (l.take (k + 1)))) w1 from .inr (by rw [HTK1.out]; rw [show wordsL (l.take k) ++ 32 :: Wd.bytes _ = (wordsL (l.take k) ++ [32]) ++ (m) by simp [Wd.bytes], bc_app]; exact hb1))
          have HB1 := Lib.hid (HBB.out.trans hb2)
          have HL1 := Lib.hid (Nat.lt_of_lt_of_le HLB.out hb2.size)
          clear hb1 hb2 ho1
          go_wp2_with fail
          go_roundw
          case rel => exact ⟨k + 1, by omega, by go_num, HB1.out, HL1.out, HI1.out⟩
          case measure => simp [intOf]; omega
        | n z =>
          unfold Wd.val at hc
          have hta := ta_no z
          have htb := ta_int z
          have HWB := Lib.hid (WriteByte w.heap.size w.heap.size _ 32 wr HISB.out (by rw [Lib.byteCells_length]; have := HLEN.out; omega) HBL.out.size)
          go_wp2_with fail
          refine (HWB.out).mono ?_
          rintro e9 w9 ⟨rfl, hb8, hb9, ho9⟩
          have HIBB := Lib.hid (show Lib.IsBuilder 187 5 w.heap.size w.heap.size (Lib.byteCells (wordsL (l.take k) ++ [32])) w9 from .inr (by rw [bc_app]; exact hb8))
          have HBB := Lib.hid (HBL.out.trans hb9)
          have HLB := Lib.hid (Nat.lt_of_lt_of_le HLW.out hb9.size)
          clear hb8 hb9 ho9
          obtain ⟨z0, z1⟩ := HOK.out
          have HII := Lib.hid (HIT.out z w9 z0 z1 HBB.out)
          go_wp2_with fail
          refine (HII.out).mono ?_
          rintro e5 w5 ⟨rfl, hb5⟩
          have HI5 := Lib.hid (isb_below HIBB.out hb5)
          have HB5 := Lib.hid (G.bl_trans HBB.out hb5)
          have HL5 := Lib.hid (Nat.lt_of_lt_of_le HLB.out hb5.size)
          have HM := Lib.hid (Nat.le_trans (Lib.itoa_length_le z z0 z1) (show 21 ≤ 64 by omega))
          clear hb5
          have HWS := Lib.hid (WriteString w.heap.size w.heap.size _ ⟨(Lib.itoa z).toArray⟩ w5 HI5.out (by rw [Lib.byteCells_length]; have := HLEN.out; have h2 := HM.out; show _ + (Lib.itoa z).length ≤ _; rw [List.length_append, List.length_singleton]; omega) HB5.out.size)
          go_wp2_with fail
          refine (HWS.out).mono ?_
          rintro e1 w1 ⟨rfl, hb1, hb2, ho1⟩
          have HI1 := Lib.hid (show Lib.IsBuilder 187 5 w.heap.size w.heap.size (Lib.byteCells (wordsL (l.take (k + 1)))) w1 from .inr (by rw [HTK1.out]; rw [show wordsL (l.take k) ++ 32 :: Wd.bytes _ = (wordsL (l.take k) ++ [32]) ++ (Lib.itoa z) by simp [Wd.bytes], bc_app]; exact hb1))
          have HB1 := Lib.hid (HB5.out.trans hb2)
          have HL1 := Lib.hid (Nat.lt_of_lt_of_le HL5.out hb2.size)
          clear hb1 hb2 ho1
          go_wp2_with fail
          go_roundw
          case rel => exact ⟨k + 1, by omega, by go_num, HB1.out, HL1.out, HI1.out⟩
          case measure => simp [intOf]; omega
    · have hkI : ¬ (k : Int) < n := by omega
      obtain rfl : k = n := by omega
      have HSTR := Lib.hid (Tryz.Builder_String_any w.heap.size w.heap.size _ wr HISB.out HBL.out.size)
      rw [List.take_of_length_le (by rw [HN.out]; omega)] at HSTR
      go_wp2_with fail
      refine (HSTR.out).mono ?_
      rintro e1 w1 ⟨rfl, hb1⟩
      go_wp2_with fail
      go_ret
      exact ⟨rfl, HBL.out.trans hb1⟩
end Go.Proofs.YtofgmijmhpmabaaGreatDoor.D

/- The walk of tableaulaw09.TreeRows. -/
import Derived.Test.YtamienmbpdbnnaaTOpen
import Derived.Test.YtamienmbpdbnnaaTDeep
import Derived.Deep.Cut
import Derived.Deep.CutRange
namespace Go.Proofs.Ytamienmbpdbnnaa.T
open Go Go.RowKit
set_option linter.unusedVariables false
set_option linter.unusedSimpArgs false
/-- Two rows of nodes that share no block. -/
def Two (w : World) (base : Nat) (v1 : Value) (n1 : Nat) (l1 : List Nd) (v2 : Value) (n2 : Nat) (l2 : List Nd) : Prop :=
  w.ownsRow base 33 7 v1 n1 (flat l1) ∧ w.ownsRow base 33 7 v2 n2 (flat l2) ∧ ∀ g, v1.ownBlock = some g → v2.ownBlock ≠ some g
theorem Two.swap {w : World} {base : Nat} {v1 v2 : Value} {n1 n2 : Nat} {l1 l2 : List Nd} (h : Two w base v1 n1 l1 v2 n2 l2) : Two w base v2 n2 l2 v1 n1 l1 :=
  ⟨h.2.1, h.1, fun g h2 h1 => h.2.2 g h1 h2⟩
theorem Two.alloc {w : World} {base : Nat} {v1 v2 : Value} {n1 n2 : Nat} {l1 l2 : List Nd} (h : Two w base v1 n1 l1 v2 n2 l2) (o : Obj) : Two (w.alloc o) base v1 n1 l1 v2 n2 l2 :=
  ⟨h.1.alloc o, h.2.1.alloc o, h.2.2⟩
theorem Two.below {w w' : World} {base : Nat} {v1 v2 : Value} {n1 n2 : Nat} {l1 l2 : List Nd} (h : Two w base v1 n1 l1 v2 n2 l2) (hb : Below w.heap.size w w') : Two w' base v1 n1 l1 v2 n2 l2 :=
  ⟨G.own_below h.1 hb, G.own_below h.2.1 hb, h.2.2⟩
theorem flat_append (a b : List Nd) : flat (a ++ b) = flat a ++ flat b := by simp [flat]
theorem Two.app {w w' : World} {base k : Nat} {v1 v1' v2 : Value} {n1 n2 m : Nat} {l1 l2 l : List Nd} (h : Two w base v1 n1 l1 v2 n2 l2) (ho : w'.ownsRow base 33 7 v1' (n1 + m) (flat l1 ++ flat l)) (hw : G.Went w w' 33 v1 v1' k) :
    Two w' base v1' (n1 + m) (l1 ++ l) v2 n2 l2 := by
  have hne : v2.ownBlock = none ∨ v2.ownBlock ≠ v1.ownBlock := by
    cases hv : v2.ownBlock with
    | none => exact .inl rfl
    | some g => exact .inr fun e => h.2.2 g e.symm hv
  refine ⟨by rw [flat_append]; exact ho, h.2.1.kept hw.by_ hne, fun g hg hg2 => ?_⟩
  rcases hw.new g hg with h5 | h5
  · exact h.2.2 g h5 hg2
  · have := (h.2.1.lt g hg2).2
    omega
theorem wpList_append_nodes {ops : Array Oper} {rest : List Oper} {o : Oper} {a : Act} {w : World} {Q : Exit → Act → World → Prop} (hgd : o.guard = none) (s x : Operand)
    (ho : o.op = .call { callee := .builtin .append, args := #[s, x], argTypes := #[22, 22] })
    (base : Nat) (v : Value) (n : Nat) (l : List Nd) (v2 : Value) (n2 : Nat) (l2 : List Nd) (hs : a.eval s = v) (hown : Two w base v n l v2 n2 l2)
    (m c : Nat) (g : Nat) (t : List Nd) (cs : Array Value) (hx : a.eval x = .slice (some ⟨g, 0, none⟩) m c) (hl : t.length = m) (hblk : G.Blk w g 33 cs) (hcs : cs.toList = flat t) (hnm : n + m ≤ 1099511627776) (hbase : base ≤ w.heap.size)
    (h : ∀ v' w', Two w' base v' (n + m) (l ++ t) v2 n2 l2 → Below base w w' → wpList Try.prog ops Q rest (a.put o.dst v') w') : wpList Try.prog ops Q (o :: rest) a w := by
  obtain ⟨i0, hi, hz0, hz1, hz2⟩ := info_parts infoNd
  refine G.wpList_append_keep w hgd s x 22 ho base 33 i0 _ 7 56 Try.underlying22 hi hz0 hz1 hz2 rfl (by decide) v n (flat l) hs hown.1 ⟨g, 0, none⟩ m c (flat t) hx (by rw [flat_length, hl])
    (fun j u hu => ?_) (nd_one _) (by unfold maxLen; omega) (by omega) hbase (fun v' w' h1 h2 => ?_)
  · rw [Addr.add_lit, Nat.zero_add, hblk.cell, ← hu, ← hcs, Array.getElem?_toList]
  · refine h v' w' (hown.app h1 h2) ((Below.refl _ _).grown h2.by_ hbase fun k hk => (hown.1.lt k hk).1)
theorem bl_base {a w w' : World} (h : Below a.heap.size a w) (hb : Below a.heap.size w w') : Below a.heap.size a w' := h.trans hb
theorem left_snoc (op : Int) (q : Nat) : (List.range q).map (fun _ => opN op) ++ [opN op] = (List.range (q + 1)).map (fun _ => opN op) := by simp [List.range_succ]
theorem right_snoc (op : Int) (q : Nat) : (List.range q).flatMap (fun i : Nat => [opN op, numN (i : Int)]) ++ [opN op, numN (q : Int)] = (List.range (q + 1)).flatMap (fun i : Nat => [opN op, numN (i : Int)]) := by simp [List.range_succ]
theorem num_snoc (q : Nat) : (List.range q).map (fun i : Nat => numN (i : Int)) ++ [numN (q : Int)] = (List.range (q + 1)).map (fun i : Nat => numN (i : Int)) := by simp [List.range_succ]
theorem one2_is {s t : List Nd} (h : s ≠ []) : oneL s t = one2 s t := by
  unfold oneL one2
  rw [if_neg h]
  rfl
theorem rows_small {op : Int} {m : Nat} : (∀ x ∈ leftL op m, x.text.size ≤ 16777216 ∧ x.kids ≤ 9223372036854775807) ∧ (∀ x ∈ rightL op m, x.text.size ≤ 16777216 ∧ x.kids ≤ 9223372036854775807) := by
  have h1 : (opN op).text.size ≤ 16777216 ∧ (opN op).kids ≤ 9223372036854775807 := ⟨by show (0 : Nat) ≤ _; omega, by show (2 : Int) ≤ _; omega⟩
  have h2 : ∀ i, (numN i).text.size ≤ 16777216 ∧ (numN i).kids ≤ 9223372036854775807 := fun i => ⟨by show (0 : Nat) ≤ _; omega, by show (0 : Int) ≤ _; omega⟩
  constructor
  · intro x hx
    simp only [leftL, List.mem_append, List.mem_map] at hx
    rcases hx with ⟨_, _, rfl⟩ | ⟨_, _, rfl⟩
    · exact h1
    · exact h2 _
  · intro x hx
    simp only [rightL, List.mem_append, List.mem_flatMap, List.mem_cons, List.mem_nil_iff, or_false] at hx
    rcases hx with ⟨_, _, rfl | rfl⟩ | rfl
    · exact h1
    · exact h2 _
    · exact h2 _
theorem one2_small {s t : List Nd} (hs : ∀ x ∈ s, x.text.size ≤ 16777216 ∧ x.kids ≤ 9223372036854775807) (ht : ∀ x ∈ t, x.text.size ≤ 16777216 ∧ x.kids ≤ 9223372036854775807) : ∀ x ∈ one2 s t, x.text.size ≤ 16777216 ∧ x.kids ≤ 9223372036854775807 := by
  intro x hx
  simp only [one2, List.mem_append, List.mem_cons, List.mem_nil_iff, or_false] at hx
  rcases hx with ((rfl | rfl | rfl) | hx) | hx
  · exact ⟨by decide, by decide⟩
  · exact ⟨by decide, by decide⟩
  · exact ⟨by decide, by decide⟩
  · exact hs x hx
  · exact ht x hx
theorem ne_b2 {a b : Int} (h : ¬ a = b) : (a != b) = true := by simpa using h
theorem leftL_len (op : Int) (m : Nat) : (leftL op m).length = 2 * m + 1 := by simp [leftL]; omega
theorem rightL_len (op : Int) (m : Nat) : (rightL op m).length = 2 * m + 1 := by rw [rightL, List.length_append, flatMap_len _ 2 (fun _ => rfl)]; rfl
set_option maxRecDepth 100000 in
set_option maxHeartbeats 8000000 in
theorem rows_walk (p op : Int) (w : World) (hp : -9223372036854775808 ≤ p ∧ p ≤ 9223372036854775807) (hci : ContIn w) :
    Calls Try.prog 7 #[.int .i64 p, .int .i8 op] w (LivesPost w) := by
  have HCI := Lib.hid hci
  unfold LivesPost
  clear hci
  have HLV := Lib.hid (fun W (h : Below w.heap.size w W) => lives_any W (HCI.out.below h))
  unfold LivesPost at HLV
  by_cases h1 : p < 1
  · go_enter Try.func7, Try.ntmps7
    go_wp2_with fail
    refine (HLV.out w (Below.refl _ _)).mono ?_
    rintro e w1 ⟨rfl, hb1⟩
    go_wp2_with fail
    go_ret
    exact ⟨rfl, hb1⟩
  · by_cases h2 : 200 < p
    · go_enter Try.func7, Try.ntmps7
      go_wp2_with fail
      refine (HLV.out w (Below.refl _ _)).mono ?_
      rintro e w1 ⟨rfl, hb1⟩
      go_wp2_with fail
      go_ret
      exact ⟨rfl, hb1⟩
    · by_cases hop : rowOp op
      · obtain ⟨m, rfl⟩ : ∃ m : Nat, p = m := ⟨p.toNat, by omega⟩
        have hm1 : 1 ≤ m := by omega
        have hm2 : m ≤ 200 := by omega
        have HLAW := Lib.hid (rows_law hop hm1 hm2)
        have hop2 : op = 36 ∨ op = 37 ∨ op = 44 ∨ op = 45 ∨ op = 46 ∨ op = 47 ∨ op = 48 := hop
        clear hop
        go_enter Try.func7, Try.ntmps7
        go_upto_region 1 with (fail)
        go_cut [45] from 12 to 103 (fun s45 wx => s45 = .bool false ∧ w = wx)
        case first =>
          rcases hop2 with rfl | rfl | rfl | rfl | rfl | rfl | rfl
          all_goals
            go_wp2_with fail
            go_meet
            exact ⟨rfl, rfl⟩
        case rest =>
          obtain ⟨rfl, rfl⟩ := hcut
          clear hop2
          have hmi : (m : Int) ≤ 200 := by omega
          go_wp2_with fail
          go_loopw [5, 6, 7] (fun a b i wr => ∃ q : Nat, q ≤ m ∧ i = .int .i64 q ∧ Two wr w.heap.size a q ((List.range q).map (fun _ => opN op)) b (2 * q) ((List.range q).flatMap (fun i : Nat => [opN op, numN (i : Int)])) ∧ Below w.heap.size w wr) (fun _ _ i _ => m - (intOf i).toNat)
          case atStart => exact ⟨0, Nat.zero_le _, rfl, ⟨World.ownsRow_nil _ _ _ _, World.ownsRow_nil _ _ _ _, fun g h => by cases h⟩, Below.refl _ _⟩
          case round =>
            obtain ⟨q, hq, rfl, hT, hB⟩ := hrel
            have HT := Lib.hid hT
            have HB := Lib.hid hB
            have hz := hB.size
            clear hT hB
            by_cases hlt : q < m
            · have hlt1 : (q : Int) < m := by omega
              go_wp2_with (first
                | (at_builtin; refine wpList_append_nodes rfl (.tmp 52) (.tmp 55) rfl w.heap.size _ q _ _ (2 * q) _ rfl (HT.out.alloc _) 1 1 wr.heap.size [opN op] _ rfl rfl (G.Blk.new wr _ _) rfl (by omega) (by simp; omega) ?_; intro v1 w1 ht1 hb1; have HT1 := Lib.hid ht1.swap; have HB1 := Lib.hid (bl_base (G.bl_alloc HB.out _) hb1); have hz1 := HB1.out.size; clear ht1 hb1)
                | (at_builtin; refine wpList_append_nodes rfl (.tmp 57) (.tmp 62) rfl w.heap.size _ (2 * q) _ _ (q + 1) _ rfl (HT1.out.alloc _) 2 2 w1.heap.size [opN op, numN (q : Int)] _ rfl rfl (G.Blk.new w1 _ _) rfl (by omega) (by simp; omega) ?_; intro v2 w2 ht2 hb2; have HT2 := Lib.hid ht2.swap; have HB2 := Lib.hid (bl_base (G.bl_alloc HB1.out _) hb2); clear ht2 hb2))
              go_roundw
              case rel => exact ⟨q + 1, by omega, by go_num, by rw [← left_snoc, ← right_snoc]; exact HT2.out, HB2.out⟩
              case measure => simp [intOf]; omega
            · have hlt1 : ¬ (q : Int) < m := by omega
              obtain rfl : q = m := by omega
              go_wp2_with fail
              go_loopw [5, 8] (fun a i wx => ∃ k : Nat, k ≤ q + 1 ∧ i = .int .i64 k ∧ Two wx w.heap.size a (q + k) ((List.range q).map (fun _ => opN op) ++ (List.range k).map (fun i : Nat => numN (i : Int))) u6 (2 * q) ((List.range q).flatMap (fun i : Nat => [opN op, numN (i : Int)])) ∧ Below w.heap.size w wx) (fun _ i _ => q + 1 - (intOf i).toNat)
              case atStart => exact ⟨0, Nat.zero_le _, rfl, by simpa using HT.out, HB.out⟩
              case round =>
                obtain ⟨k, hk, rfl, hT2, hB2⟩ := hrel
                have HT2 := Lib.hid hT2
                have HB2 := Lib.hid hB2
                have hz2 := hB2.size
                clear hT2 hB2 hz
                by_cases hlt : k ≤ q
                · have hlt2 : (k : Int) ≤ q := by omega
                  go_wp2_with (at_builtin; refine wpList_append_nodes rfl (.tmp 69) (.tmp 72) rfl w.heap.size _ (q + k) _ _ (2 * q) _ rfl (HT2.out.alloc _) 1 1 wr.heap.size [numN (k : Int)] _ rfl rfl (G.Blk.new wr _ _) rfl (by omega) (by simp; omega) ?_; intro v1 w1 ht1 hb1; have HT3 := Lib.hid ht1; have HB3 := Lib.hid (bl_base (G.bl_alloc HB2.out _) hb1); clear ht1 hb1)
                  go_roundw
                  case rel => exact ⟨k + 1, by omega, by go_num, by rw [← num_snoc, ← List.append_assoc]; exact HT3.out, HB3.out⟩
                  case measure => simp [intOf]; omega
                · have hlt2 : ¬ (k : Int) ≤ q := by omega
                  obtain rfl : k = q + 1 := by omega
                  obtain ⟨a5, c5, h5⟩ := G.own_shape HT2.out.1
                  subst h5
                  have HSM := Lib.hid (rows_small (op := op) (m := q))
                  have hbs : ∀ x ∈ [blN 0], x.text.size ≤ 16777216 ∧ x.kids ≤ 9223372036854775807 := by intro x hx; obtain rfl := List.mem_singleton.1 hx; exact ⟨by decide, by decide⟩
                  have HBS := Lib.hid hbs
                  have HON := Lib.hid (fun W (A : Option Addr) (B : Option Addr) (a b c d : Nat) (s t : List Nd) (hs : Src W A a c s) (ht : Src W B b d t) (ha : a ≤ 16777216) (hb : b ≤ 16777216) => one_any A B a c b d s t W hs ht ha hb)
                  unfold OnePost at HON
                  have HDP := Lib.hid (fun W (A : Option Addr) (n c : Nat) (t : List Nd) (hn : t.length = n) (hm : n ≤ 16777216) (hr : G.RdS W A 7 n (flat t)) (hb : Below w.heap.size w W) (ht : ∀ x ∈ t, x.text.size ≤ 16777216 ∧ x.kids ≤ 9223372036854775807) => depth_any A n c t W hn hm hr (HCI.out.below hb) ht)
                  unfold DepPost at HDP
                  clear hbs hlt hlt1 hk
                  go_wp2_with (at_builtin; refine wpList_append_nodes rfl (.tmp 74) (.tmp 77) rfl w.heap.size _ (2 * q) _ _ (q + (q + 1)) _ rfl (HT2.out.swap.alloc _) 1 1 wr.heap.size [numN (q : Int)] _ rfl rfl (G.Blk.new wr _ _) rfl (by omega) (by simp; omega) ?_; intro v6 w1 ht1 hb1; have HT3 := Lib.hid ht1; have HB3 := Lib.hid (bl_base (G.bl_alloc HB2.out _) hb1); obtain ⟨a6, c6, h6⟩ := G.own_shape ht1.1; subst h6; clear ht1 hb1)
                  have hsl : Src w1 a5 (q + (q + 1)) c5 (leftL op q) := Src.of_own HT3.out.2.1 (by rw [leftL_len]; omega)
                  have hsr : Src w1 a6 (2 * q + 1) c6 (rightL op q) := Src.of_own HT3.out.1 (by rw [rightL_len])
                  have hsb : Src (w1.alloc (.cells #[.int .i8 10, .int .i8 0, .int .i64 0, .int .i64 0, .string ⟨#[]⟩, .int .i64 0, .int .i64 0] 33)) (some ⟨w1.heap.size, 0, none⟩) 1 1 [blN 0] := .inr ⟨⟨_, rfl⟩, rfl, G.RdS.of_rdV (G.Blk.new w1 33 _).rdV rfl⟩
                  have hba := G.bl_alloc (Below.refl w1.heap.size w1) (.cells #[.int .i8 10, .int .i8 0, .int .i64 0, .int .i64 0, .string ⟨#[]⟩, .int .i64 0, .int .i64 0] 33)
                  generalize w1.alloc (Obj.cells _ _) = w2 at hsb hba ⊢
                  have HL2 := Lib.hid (hsl.below hba)
                  have HR2 := Lib.hid (hsr.below hba)
                  have HK2 := Lib.hid hsb
                  have HB4 := Lib.hid (G.bl_trans HB3.out hba)
                  generalize w1.heap.size = gb at HK2 ⊢
                  clear hsl hsr hsb hba
                  refine (HON.out w2 a5 (some ⟨gb, 0, none⟩) (q + (q + 1)) 1 c5 1 (leftL op q) [blN 0] HL2.out HK2.out (by omega) (by omega)).mono ?_
                  rintro e w3 ⟨A3, c3, he, ho3, hb3⟩
                  rw [one2_is (by intro e; have := congrArg List.length e; rw [leftL_len] at this; simp at this)] at ho3
                  have hn : 3 + (leftL op q).length + [blN 0].length = 2 * q + 5 := by rw [leftL_len]; simp; omega
                  rw [hn] at he ho3
                  subst he
                  have HB5 := Lib.hid (G.bl_trans HB4.out hb3)
                  have HR5 := Lib.hid (G.RdS.of_own ho3)
                  have HL5 := Lib.hid (HL2.out.below hb3)
                  have HR25 := Lib.hid (HR2.out.below hb3)
                  have HK5 := Lib.hid (HK2.out.below hb3)
                  clear ho3 hb3 hn
                  go_wp2_with fail
                  refine (HDP.out w3 A3 (2 * q + 5) c3 (one2 (leftL op q) [blN 0]) (by have := leftL_len op q; simp [one2, this]) (by omega) HR5.out HB5.out (one2_small HSM.out.1 HBS.out)).mono ?_
                  rintro e w4 ⟨rfl, hb4⟩
                  rw [HLAW.out.1]
                  have HB6 := Lib.hid (G.bl_trans HB5.out hb4)
                  have HR26 := Lib.hid (HR25.out.below hb4)
                  have HK6 := Lib.hid (HK5.out.below hb4)
                  clear hb4
                  go_wp2_with fail
                  refine (HON.out w4 a6 (some ⟨gb, 0, none⟩) (2 * q + 1) 1 c6 1 (rightL op q) [blN 0] HR26.out HK6.out (by omega) (by omega)).mono ?_
                  rintro e w5 ⟨A5, c55, he, ho3, hb3⟩
                  rw [one2_is (by intro e; have := congrArg List.length e; rw [rightL_len] at this; simp at this)] at ho3
                  have hn : 3 + (rightL op q).length + [blN 0].length = 2 * q + 5 := by rw [rightL_len]; simp; omega
                  rw [hn] at he ho3
                  subst he
                  have HB7 := Lib.hid (G.bl_trans HB6.out hb3)
                  have HR7 := Lib.hid (G.RdS.of_own ho3)
                  clear ho3 hb3 hn
                  go_wp2_with fail
                  refine (HDP.out w5 A5 (2 * q + 5) c55 (one2 (rightL op q) [blN 0]) (by have := rightL_len op q; simp [one2, this]) (by omega) HR7.out HB7.out (one2_small HSM.out.2 HBS.out)).mono ?_
                  rintro e w6 ⟨rfl, hb4⟩
                  rw [HLAW.out.2]
                  have HB8 := Lib.hid (G.bl_trans HB7.out hb4)
                  clear hb4
                  go_wp2_with fail
                  refine (HLV.out w6 HB8.out).mono ?_
                  rintro e w7 ⟨rfl, hb9⟩
                  have HB9 := Lib.hid (G.bl_trans HB8.out hb9)
                  clear hb9
                  go_wp2_with fail
                  go_ret
                  exact ⟨rfl, HB9.out⟩
      · have hop2 : (op != 36) = true ∧ (op != 37) = true ∧ (op != 44) = true ∧ (op != 45) = true ∧ (op != 46) = true ∧ (op != 47) = true ∧ (op != 48) = true := by
          unfold rowOp at hop
          simp only [not_or] at hop
          exact ⟨ne_b2 hop.1, ne_b2 hop.2.1, ne_b2 hop.2.2.1, ne_b2 hop.2.2.2.1, ne_b2 hop.2.2.2.2.1, ne_b2 hop.2.2.2.2.2.1, ne_b2 hop.2.2.2.2.2.2⟩
        obtain ⟨o1, o2, o3, o4, o5, o6, o7⟩ := hop2
        clear hop
        go_enter Try.func7, Try.ntmps7
        go_wp2_with fail
        refine (HLV.out w (Below.refl _ _)).mono ?_
        rintro e w1 ⟨rfl, hb1⟩
        go_wp2_with fail
        go_ret
        exact ⟨rfl, hb1⟩
end Go.Proofs.Ytamienmbpdbnnaa.T

/- Put, All, Text of lists that the call owns, nil ones too. -/
import Derived.Test.YtfldicaaaadgaaaDoorCParse
import Derived.Test.YtfldicaaaadgaaaDoorCBoth
import Derived.Test.YtfldicaaaadgaaaDoorCRefText
namespace Go.Proofs.YtfldicaaaadgaaaDoor.Code
open Go Go.RowKit
set_option linter.unusedVariables false
set_option linter.unusedSimpArgs false
theorem All_nil (w : World) : Calls Tryd.prog 12 #[.slice none 0 0] w (AllPost [] w) := by
  go_enter Tryd.func12, Tryd.ntmps12
  go_wp2
  go_rounds 1
  go_ret3
  exact ⟨_, rfl, World.ownsRow_nil _ _ _ _, Below.refl _ _⟩
theorem Text_nil (w : World) : Calls Tryd.prog 22 #[.slice none 0 0] w fun e w' => e = .returned (.string ⟨#[]⟩) ∧ Below w.heap.size w w' := by
  go_enter Tryd.func22, Tryd.ntmps22
  go_wp2_with (go_at_call 21; refine (Put_nil w).mono ?_; rintro e w1 ⟨v0, rfl, ho1, hb1⟩)
  have his := Lib.fresh_isBuilder 89 5 w1
  refine wp_loop_rounds 1 ?_
  rw [rounds_succ]
  go_wp2_with (go_at_call 63; refine (Tryd.Builder_String_any _ _ [] _ his (by simp)).mono ?_; rintro e w2 ⟨rfl, hb2⟩)
  go_ret
  exact ⟨rfl, Bl.tr hb1 ((Bl.al (Below.refl _ _) _).trans hb2)⟩
theorem own_cases {w : World} {base : Nat} {t : TypeId} {size : Nat} {v : Value} {n : Nat} {xs : List Value} (h : w.ownsRow base t size v n xs) :
    (v = .slice none 0 0 ∧ n = 0) ∨ ∃ g cap, v = .slice (some ⟨g, 0, none⟩) n cap ∧ RdV w g 0 xs ∧ cap ≤ maxLen ∧ n ≤ cap := by
  rcases h.2 with h0 | ⟨g, cap, cur, rfl, hb, hgg, hnc, hc, hcs, ht⟩
  · exact .inl h0
  · refine .inr ⟨g, cap, rfl, ?_, hc, hnc⟩
    rcases Nat.eq_zero_or_pos n with h0 | h0
    · refine ⟨(Array.getElem?_eq_some_iff.1 hgg).1, fun i hi => ?_⟩
      have := h.1
      rw [h0, Nat.zero_mul] at this
      omega
    · obtain ⟨g2, cap2, hv2, hrd, _, _⟩ := own_rdV h h0
      simp only [Value.slice.injEq, Option.some.injEq, Addr.mk.injEq, and_true, true_and] at hv2
      obtain ⟨rfl, _⟩ := hv2
      exact hrd
theorem Put_own {w : World} {base : Nat} {v : Value} {l : List Ins} (h : w.ownsRow base 26 5 v l.length (flat l)) (hm : l.length ≤ 1073741824) (hop : ∀ x ∈ l, 0 ≤ x.op ∧ x.op < 256) : Calls Tryd.prog 21 #[v] w (PutAPost l w) := by
  rcases own_cases h with ⟨rfl, h0⟩ | ⟨g, cap, rfl, hr, _, _⟩
  · obtain rfl := List.eq_nil_of_length_eq_zero h0
    exact Put_nil w
  · exact Put_any g 0 cap l w (by omega) hr hop
theorem Text_own {w : World} {base : Nat} {v : Value} {l : List Ins} (h : w.ownsRow base 26 5 v l.length (flat l)) (hm : l.length ≤ 1073741824) (hz : PutOk 0 l) (hit : ItoaIn w) : Calls Tryd.prog 22 #[v] w fun e w' => e = .returned (.string ⟨(textOf l).toArray⟩) ∧ Below w.heap.size w w' := by
  rcases own_cases h with ⟨rfl, h0⟩ | ⟨g, cap, rfl, hr, _, _⟩
  · obtain rfl := List.eq_nil_of_length_eq_zero h0
    exact Text_nil w
  · exact Text_ok g 0 cap l w (by omega) hr hz hit
theorem All_own {w : World} {base : Nat} {v : Value} {zs : List Int} (h : w.ownsRow base 5 1 v zs.length (u8s zs)) (hm : zs.length ≤ 1073741824) (hz : IsBytes zs) : Calls Tryd.prog 12 #[v] w (AllPost zs w) := by
  rcases own_cases h with ⟨rfl, h0⟩ | ⟨g, cap, rfl, hr, hc, hn⟩
  · obtain rfl := List.eq_nil_of_length_eq_zero h0
    exact All_nil w
  · refine All_any g 0 cap zs w (by unfold maxLen at hc; omega) (by omega) hn ⟨hr.1, fun j hj => ?_⟩ hz
    rw [hr.2 j (by rw [u8s_length]; exact hj)]
    unfold u8s
    rw [List.getD_eq_getElem?_getD, List.getElem?_map, List.getElem?_eq_getElem hj, List.getD_eq_getElem?_getD, List.getElem?_eq_getElem hj]
    rfl
theorem rds_own {w : World} {base : Nat} {t : TypeId} {size n c : Nat} {A : Option Addr} {xs : List Value} (h : w.ownsRow base t size (.slice A n c) n xs) : G.RdS w A size n xs := G.RdS.of_own h
/-- An instruction of an opcode and a number. -/
def mkIns (at_ op a : Int) : Ins :=
  if kindOf op = 1 then ⟨at_, op, a, 0, 0⟩ else if kindOf op = 2 then ⟨at_, op, 257 * a, 0, 0⟩ else if kindOf op = 3 then ⟨at_, op, a, 255 - a, 256 * a + 255 - a⟩ else ⟨at_, op, 0, 0, 0⟩
theorem mkIns_op (p op a : Int) : (mkIns p op a).op = op ∧ (mkIns p op a).at_ = p := by
  unfold mkIns
  repeat' split
  all_goals exact ⟨rfl, rfl⟩
theorem mkIns_right {p op a : Int} (h0 : 0 ≤ op) (h1 : op < 256) (hk : 0 ≤ kindOf op) (ha : 0 ≤ a ∧ a < 256) : RightI (mkIns p op a) := by
  unfold mkIns RightI
  rcases kind_or op h0 h1 with h | h | h | h | h
  · omega
  · rw [h]; simp [h]
  · rw [h]; simp [h]; omega
  · rw [h]; simp [h]; omega
  · rw [h]; simp [h]; omega
/-- The list that the law lays. -/
structure ThI (w wr : World) (v : Value) (j : Nat) (p : Int) (l : List Ins) : Prop where
  own : wr.ownsRow w.heap.size 26 5 v l.length (flat l)
  bl : Below w.heap.size w wr
  ok : ∀ suf, PutOk p suf → PutOk 0 (l ++ suf)
  len : (bytesOf l).length = p.toNat
  most : p ≤ 5 * j
  pos : 0 ≤ p
  num : l.length ≤ j
  op : ∀ x ∈ l, 0 ≤ x.op ∧ x.op < 256
theorem ThI.below {w wr w' : World} {v : Value} {j : Nat} {p : Int} {l : List Ins} (h : ThI w wr v j p l) (hb : Below wr.heap.size wr w') : ThI w w' v j p l := ⟨Bl.own h.own hb, Bl.tr h.bl hb, h.ok, h.len, h.most, h.pos, h.num, h.op⟩
theorem ThI.skip {w wr : World} {v : Value} {j : Nat} {p : Int} {l : List Ins} (h : ThI w wr v j p l) : ThI w wr v (j + 1) p l := ⟨h.own, h.bl, h.ok, h.len, by have := h.most; omega, h.pos, by have := h.num; omega, h.op⟩
theorem ThI.step {w wr w' : World} {v v' : Value} {j : Nat} {p : Int} {l : List Ins} {x : Ins} (h : ThI w wr v j p l) (hj : j < 4096) (hx : RightI x) (ha : x.at_ = p) (ho : 0 ≤ x.op ∧ x.op < 256)
    (hown : w'.ownsRow w.heap.size 26 5 v' (l.length + 1) (flat l ++ x.cells)) (hg : wr.grownBy w' v.ownBlock) : ThI w w' v' (j + 1) (p + sizeOf x.op) (l ++ [x]) := by
  have hl := hx.len.1
  have hw : sizeOf x.op ≤ 5 ∧ 0 ≤ sizeOf x.op := by
    have := width_le (kindOf x.op)
    unfold sizeOf
    split <;> omega
  have h1 := h.most
  have h2 := h.pos
  refine ⟨?_, Bl.grown h.bl h.own hg, fun suf hs => ?_, ?_, by omega, by omega, by have := h.num; simp; omega, fun y hy => ?_⟩
  · rw [List.length_append, flat_snoc]
    exact hown
  · rw [List.append_assoc]
    refine h.ok _ ⟨ha, hx, by omega, hs⟩
  · have h3 := h.len
    have e : bytesOf (l ++ [x]) = bytesOf l ++ encOf x := by simp [bytesOf]
    rw [e, List.length_append, h3]
    omega
  · rcases List.mem_append.1 hy with hy | hy
    · exact h.op y hy
    · simp only [List.mem_singleton] at hy
      subst hy
      exact ho
theorem ThI.put {w wr : World} {v : Value} {j : Nat} {p : Int} {l : List Ins} (h : ThI w wr v j p l) : PutOk 0 l := by
  have := h.ok [] trivial
  rwa [List.append_nil] at this
/-- As many rows as instructions. -/
theorem rows_text : ∀ (l : List Ins), (∀ x ∈ l, Told x) → (textOf l).count 10 = l.length
  | [], _ => rfl
  | x :: l, h => by
    have hx := h x (by simp)
    have h0 : (bodyL x).count 10 = 0 := List.count_eq_zero.2 (body_no x hx.op.1 hx.op.2 hx.kind hx.at_ hx.small)
    rw [show textOf (x :: l) = bodyL x ++ 10 :: textOf l by simp [textOf, rowText, bodyL], List.count_append, List.count_cons, rows_text l (fun y hy => h y (by simp [hy])), h0]
    simp
    
theorem bytesOf_is : ∀ (l : List Ins) (p : Int), (∀ x ∈ l, 0 ≤ x.op ∧ x.op < 256) → PutOk p l → ∀ z ∈ bytesOf l, 0 ≤ z ∧ z < 256
  | [], _, _, _, z, hz => by simp [bytesOf] at hz
  | x :: l, p, ho, h, z, hz => by
    obtain ⟨ha, hx, hs, hl⟩ := h
    have e : bytesOf (x :: l) = encOf x ++ bytesOf l := by simp [bytesOf]
    rw [e] at hz
    rcases List.mem_append.1 hz with hz | hz
    · have hop := ho x (by simp)
      unfold encOf opBytes at hz
      rcases hx with ⟨hk, h⟩ | ⟨hk, h⟩ | ⟨hk, h⟩ | ⟨hk, h⟩
      all_goals
        rw [hk] at hz
        simp at hz
        omega
    · exact bytesOf_is l _ (fun y hy => ho y (by simp [hy])) hl z hz
theorem isBytes_of {zs : List Int} (h : ∀ z ∈ zs, 0 ≤ z ∧ z < 256) : IsBytes zs := by
  intro j
  rw [List.getD_eq_getElem?_getD]
  cases hj : zs[j]? with
  | none => simp
  | some z => exact h z (List.mem_of_getElem? hj)
end Go.Proofs.YtfldicaaaadgaaaDoor.Code

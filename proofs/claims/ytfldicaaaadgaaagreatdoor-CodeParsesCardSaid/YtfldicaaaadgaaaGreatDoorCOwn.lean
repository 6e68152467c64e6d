/- Put, All, Text of lists that the call owns, nil ones too. -/
import Derived.Test.YtfldicaaaadgaaaGreatDoorCRefPut
import Derived.Test.YtfldicaaaadgaaaGreatDoorCText
import Derived.Lib.AppendStr
import Derived.Lib.BufferRead
import Derived.Test.YtfldicaaaadgaaaGreatDoorCRow
import Derived.Test.YtfldicaaaadgaaaGreatDoorCAll
import Derived.Test.YtfldicaaaadgaaaGreatDoorCParse
namespace Go.Proofs.YtfldicaaaadgaaaGreatDoor.Code
section
open Go.RowKit
set_option linter.unusedVariables false
set_option linter.unusedSimpArgs false
def rowBody (x : Ins) : List UInt8 := Lib.itoa x.at_ ++ [32] ++ nameOf x.op ++ opsText (numsOf x (kindOf x.op))
theorem rowText_body (x : Ins) : rowText x = rowBody x ++ [10] := rfl
theorem nums_eq (x : Ins) (k : Int) (hk4 : k = 0 ∨ k = 1 ∨ k = 2 ∨ k = 3) : (numsOf x k).length = (widthsOf k).length ∧ ∀ q, q < (widthsOf k).length → [x.a, x.b, x.c].getD q 0 = (numsOf x k).getD q 0 := by
  rcases hk4 with rfl | rfl | rfl | rfl
  · exact ⟨rfl, fun q hq => by simp [widthsOf] at hq⟩
  · refine ⟨rfl, fun q hq => ?_⟩
    obtain rfl : q = 0 := by simp [widthsOf] at hq; omega
    rfl
  · refine ⟨rfl, fun q hq => ?_⟩
    obtain rfl : q = 0 := by simp [widthsOf] at hq; omega
    rfl
  · exact ⟨rfl, fun q hq => rfl⟩
theorem opsText_snoc (ns : List Int) {q : Nat} (h : q < ns.length) : opsText (ns.take (q + 1)) = opsText (ns.take q) ++ 32 :: Lib.itoa (ns.getD q 0) := by
  have e1 : ns.take (q + 1) = ns.take q ++ [ns.getD q 0] := by
    rw [List.take_succ_eq_append_getElem h, List.getD_eq_getElem?_getD, List.getElem?_eq_getElem h]; rfl
  rw [e1]
  unfold opsText
  rw [List.flatMap_append, List.flatMap_cons, List.flatMap_nil, List.append_nil]
theorem putGo_ok : ∀ (l : List Ins) (b : List Int) (i : Nat), (putGo l b i).2.1 = 0 → PutOk b.length l
  | [], _, _, _ => trivial
  | x :: l, b, i, h => by
    rw [putGo] at h
    split at h
    · simp at h
    · split at h
      · simp at h
      · split at h
        · simp at h
        · rename_i h1 h2 h3
          have hri : RightI x := Classical.byContradiction fun hn => h2 (.inl hn)
          have hat : x.at_ = (b.length : Int) := Classical.byContradiction fun hn => h2 (.inr hn)
          have ih := putGo_ok l _ _ h
          rw [List.length_append] at ih
          have hl := hri.len.1
          refine ⟨hat, hri, by omega, ?_⟩
          have e : ((b.length + (encOf x).length : Nat) : Int) = (b.length : Int) + sizeOf x.op := by omega
          rw [← e]
          exact ih
def textSpec (l : List Ins) : List UInt8 := if (putOf l).2.1 = 0 then textOf l else []
set_option maxRecDepth 100000 in
set_option maxHeartbeats 1000000 in
theorem Text_any (b off cap : Nat) (l : List Ins) (w : World) (hm : l.length * 64 ≤ 140737488351232) (hr : RdV w b off (flat l)) (hop : ∀ x ∈ l, 0 ≤ x.op ∧ x.op < 256) (hit : ItoaIn w) :
    Calls Tryz.prog 13 #[.slice (some ⟨b, off, none⟩) l.length cap] w fun e w' => e = .returned (.string ⟨(textSpec l).toArray⟩) ∧ Below w.heap.size w w' := by
  by_cases h0 : (putOf l).2.1 = 0
  · have e : textSpec l = textOf l := if_pos h0
    rw [e]
    exact Text_ok b off cap l w hm hr (putGo_ok l [] 0 h0) hit
  · have e : textSpec l = [] := if_neg h0
    rw [e]
    have HP := Lib.hid (Put_any b off cap l w hm hr hop)
    unfold PutAPost at HP
    obtain ⟨p, hp⟩ : ∃ p, p = putOf l := ⟨_, rfl⟩
    rw [← hp] at HP h0
    have hne : (p.2.1 != 0) = true := by simpa using h0
    clear hm hr hop hit e hp h0
    go_enter Tryz.func13, Tryz.ntmps13
    go_wp2_with (go_at_call 12; refine (HP.out).mono ?_; rintro e w1 ⟨v0, rfl, ho1, hb1⟩)
    go_ret
    exact ⟨rfl, hb1⟩
end
section
open Go Go.RowKit
set_option linter.unusedVariables false
set_option linter.unusedSimpArgs false
theorem getI_mid {P U R : List Int} {i : Nat} (h : i < U.length) : (P ++ (U ++ R)).getD (P.length + i) 0 = U.getD i 0 := by
  simp only [List.getD_eq_getElem?_getD]
  rw [List.getElem?_append_right (by omega), show P.length + i - P.length = i by omega, List.getElem?_append_left h]
theorem told_of {x : Ins} (hop : 0 ≤ x.op ∧ x.op < 256) (ha : 0 ≤ x.at_ ∧ x.at_ ≤ 9223372036854775807) (h : RightI x) : Told x := by
  refine ⟨hop, by have := h.kind; omega, ha, fun m hm => ?_, ?_⟩
  · have := h.nums m hm
    omega
  · obtain ⟨at_, op, a, b, c⟩ := x
    unfold insOf numsOf
    rcases h with ⟨hk, h⟩ | ⟨hk, h⟩ | ⟨hk, h⟩ | ⟨hk, h⟩
    all_goals
      simp only at hk h
      simp only [hk]
    · obtain ⟨rfl, rfl, rfl⟩ := h; rfl
    · obtain ⟨_, rfl, rfl⟩ := h; rfl
    · obtain ⟨_, rfl, rfl⟩ := h; rfl
    · rfl
theorem readAt_enc {x : Ins} {P R : List Int} (h : RightI x) (ha : x.at_ = (P.length : Int)) : readAt (P ++ (encOf x ++ R)) (P.length : Int) = (x, 0) := by
  have hl := h.len.1
  have hlen : (P ++ (encOf x ++ R)).length = P.length + ((encOf x).length + R.length) := by simp
  have hsz : sizeOf x.op = 1 + width (kindOf x.op) := by
    unfold sizeOf
    rw [if_neg (by have := h.kind; omega)]
  have hw := width_le (kindOf x.op)
  have g : ∀ i, i < (encOf x).length → (P ++ (encOf x ++ R)).getD (P.length + i) 0 = (encOf x).getD i 0 := fun i hi => getI_mid hi
  have g0 : (P ++ (encOf x ++ R)).getD P.length 0 = x.op := by
    have := g 0 (by omega)
    rw [Nat.add_zero] at this
    rw [this]
    rfl
  unfold readAt
  rw [if_neg (by rw [hlen]; omega)]
  simp only [Int.toNat_natCast]
  rw [g0, if_neg (by have := h.kind; omega), if_neg (by rw [hlen]; omega)]
  obtain ⟨at_, op, a, b, c⟩ := x
  simp only at ha hl hsz h g g0
  subst ha
  rcases h with ⟨hk, h⟩ | ⟨hk, h⟩ | ⟨hk, h⟩ | ⟨hk, h⟩
  · simp only at hk h
    obtain ⟨rfl, rfl, rfl⟩ := h
    simp only [hk]
    rfl
  · simp only at hk h
    obtain ⟨_, rfl, rfl⟩ := h
    have he : encOf ⟨(P.length : Int), op, a, 0, 0⟩ = [op, a] := by simp [encOf, opBytes, hk]
    rw [he] at g ⊢
    simp only [hk]
    rw [if_pos trivial, g 1 (by simp)]
    rfl
  · simp only at hk h
    obtain ⟨_, rfl, rfl⟩ := h
    have he : encOf ⟨(P.length : Int), op, a, 0, 0⟩ = [op, a / 256, a % 256] := by simp [encOf, opBytes, hk]
    rw [he] at g ⊢
    simp only [hk]
    rw [if_neg (by decide), if_pos trivial, g 1 (by simp), g 2 (by simp)]
    have e : a / 256 * 256 + a % 256 = a := by omega
    simp [e]
  · simp only at hk h
    have he : encOf ⟨(P.length : Int), op, a, b, c⟩ = [op, a, b, c / 256, c % 256] := by simp [encOf, opBytes, hk]
    rw [he] at g ⊢
    simp only [hk]
    rw [if_neg (by decide), if_neg (by decide), if_pos trivial, g 1 (by simp), g 2 (by simp), g 3 (by simp), g 4 (by simp)]
    have e : c / 256 * 256 + c % 256 = c := by omega
    simp [e]
theorem allGo_put : ∀ (suf pre acc : List Ins) (f : Nat), PutOk ((bytesOf pre).length : Int) suf → (bytesOf suf).length < f → allGo (bytesOf pre ++ bytesOf suf) f ((bytesOf pre).length : Int) acc = (acc ++ suf, 0, 0)
  | [], pre, acc, f, _, hf => by
    rw [show bytesOf [] = [] from rfl, List.append_nil, List.append_nil]
    exact allGo_end (by omega)
  | x :: suf, pre, acc, f, h, hf => by
    obtain ⟨f, rfl⟩ : ∃ g, f = g + 1 := ⟨f - 1, by omega⟩
    obtain ⟨ha, hx, hs, hl⟩ := h
    have hb : bytesOf (x :: suf) = encOf x ++ bytesOf suf := by simp [bytesOf]
    have hr := readAt_enc (P := bytesOf pre) (R := bytesOf suf) hx ha
    have hlen := hx.len.1
    have hpos : 1 ≤ (encOf x).length := by simp [encOf]
    rw [hb, allGo_step (by rw [List.length_append, List.length_append]; omega) (by rw [hr]), hr]
    simp only
    have hpre : bytesOf (pre ++ [x]) = bytesOf pre ++ encOf x := by simp [bytesOf]
    have e : ((bytesOf pre).length : Int) + sizeOf x.op = ((bytesOf (pre ++ [x])).length : Int) := by rw [hpre, List.length_append]; omega
    rw [e] at hl ⊢
    rw [← List.append_assoc, ← hpre, allGo_put suf (pre ++ [x]) (acc ++ [x]) f hl (by rw [hb, List.length_append] at hf; omega), List.append_assoc]
    rfl
theorem allOf_put {l : List Ins} (h : PutOk 0 l) : allOf (bytesOf l) = (l, 0, 0) := by
  have := allGo_put l [] [] ((bytesOf l).length + 1) h (by omega)
  exact this
/-- What is put without a refusal. -/
theorem putGo_put : ∀ (suf pre : List Ins) (i : Nat), (∀ x ∈ suf, 0 ≤ x.op ∧ x.op < 256) → PutOk ((bytesOf pre).length : Int) suf → putGo suf (bytesOf pre) i = (bytesOf pre ++ bytesOf suf, 0, 0)
  | [], pre, i, _, _ => by rw [putGo, show bytesOf [] = [] from rfl, List.append_nil]
  | x :: suf, pre, i, ho, h => by
    obtain ⟨ha, hx, hs, hl⟩ := h
    have hlen := hx.len.1
    have hpre : bytesOf (pre ++ [x]) = bytesOf pre ++ encOf x := by simp [bytesOf]
    have e : ((bytesOf pre).length : Int) + sizeOf x.op = ((bytesOf (pre ++ [x])).length : Int) := by rw [hpre, List.length_append]; omega
    rw [putGo, if_neg (by have := hx.kind; omega), if_neg (by rintro (h | h); exact h hx; exact h ha), if_neg (by omega), ← hpre, putGo_put suf (pre ++ [x]) (i + 1) (fun y hy => ho y (by simp [hy])) (by rw [← e]; exact hl), hpre]
    simp [bytesOf]
theorem putOf_put {l : List Ins} (ho : ∀ x ∈ l, 0 ≤ x.op ∧ x.op < 256) (h : PutOk 0 l) : putOf l = (bytesOf l, 0, 0) := putGo_put l [] 0 ho h
theorem PutOk.told : ∀ {l : List Ins} {p : Int}, 0 ≤ p → p ≤ 65535 → (∀ x ∈ l, 0 ≤ x.op ∧ x.op < 256) → PutOk p l → ∀ x ∈ l, Told x
  | [], _, _, _, _, _, x, hx => by cases hx
  | y :: l, p, hp, hp2, ho, h, x, hx => by
    obtain ⟨ha, hy, hs, hl⟩ := h
    have hlen := hy.len.1
    rcases List.mem_cons.1 hx with rfl | hx
    · exact told_of (ho x (by simp)) (by omega) hy
    · exact PutOk.told (by omega) hs (fun z hz => ho z (by simp [hz])) hl x hx
end
section
open Go Go.RowKit
set_option linter.unusedVariables false
set_option linter.unusedSimpArgs false
theorem All_nil (w : World) : Calls Tryz.prog 11 #[.slice none 0 0] w (AllPost [] w) := by
  go_enter Tryz.func11, Tryz.ntmps11
  go_wp2
  go_rounds 1
  go_ret3
  exact ⟨_, rfl, World.ownsRow_nil _ _ _ _, Below.refl _ _⟩
theorem Text_nil (w : World) : Calls Tryz.prog 13 #[.slice none 0 0] w fun e w' => e = .returned (.string ⟨#[]⟩) ∧ Below w.heap.size w w' := by
  go_enter Tryz.func13, Tryz.ntmps13
  go_wp2_with (go_at_call 12; refine (Put_nil w).mono ?_; rintro e w1 ⟨v0, rfl, ho1, hb1⟩)
  have his := Lib.fresh_isBuilder 82 5 w1
  refine wp_loop_rounds 1 ?_
  rw [rounds_succ]
  go_wp2_with (go_at_call 48; refine (Tryz.Builder_String_any _ _ [] _ his (by simp)).mono ?_; rintro e w2 ⟨rfl, hb2⟩)
  go_ret
  exact ⟨rfl, Bl.tr hb1 ((Bl.al (Below.refl _ _) _).trans hb2)⟩
theorem own_cases {w : World} {base : Nat} {t : TypeId} {size : Nat} {v : Value} {n : Nat} {xs : List Value} (h : w.ownsRow base t size v n xs) :
    (v = .slice none 0 0 ∧ n = 0) ∨ ∃ g cap, v = .slice (some ⟨g, 0, none⟩) n cap ∧ RdV w g 0 xs ∧ cap ≤ maxLen ∧ n ≤ cap := by
  rcases h.2 with h0 | ⟨g, cap, cur, rfl, hb, hgg, hnc, hc, hcs, ht⟩
  · exact .inl h0
  · refine .inr ⟨g, cap, rfl, ?_, hc, hnc⟩
    rcases Nat.eq_zero_or_pos n with h0 | h0
    · refine ⟨(Array.getElem?_eq_some_iff.1 hgg).1, fun i hi => ?_⟩
      have := h.1
      rw [h0, Nat.zero_mul] at this
      omega
    · obtain ⟨g2, cap2, hv2, hrd, _, _⟩ := own_rdV h h0
      simp only [Value.slice.injEq, Option.some.injEq, Addr.mk.injEq, and_true, true_and] at hv2
      obtain ⟨rfl, _⟩ := hv2
      exact hrd
theorem Put_own {w : World} {base : Nat} {v : Value} {l : List Ins} (h : w.ownsRow base 55 5 v l.length (flat l)) (hm : l.length ≤ 1073741824) (hop : ∀ x ∈ l, 0 ≤ x.op ∧ x.op < 256) : Calls Tryz.prog 12 #[v] w (PutAPost l w) := by
  rcases own_cases h with ⟨rfl, h0⟩ | ⟨g, cap, rfl, hr, _, _⟩
  · obtain rfl := List.eq_nil_of_length_eq_zero h0
    exact Put_nil w
  · exact Put_any g 0 cap l w (by omega) hr hop
theorem Text_own {w : World} {base : Nat} {v : Value} {l : List Ins} (h : w.ownsRow base 55 5 v l.length (flat l)) (hm : l.length ≤ 1073741824) (hz : PutOk 0 l) (hit : ItoaIn w) : Calls Tryz.prog 13 #[v] w fun e w' => e = .returned (.string ⟨(textOf l).toArray⟩) ∧ Below w.heap.size w w' := by
  rcases own_cases h with ⟨rfl, h0⟩ | ⟨g, cap, rfl, hr, _, _⟩
  · obtain rfl := List.eq_nil_of_length_eq_zero h0
    exact Text_nil w
  · exact Text_ok g 0 cap l w (by omega) hr hz hit
theorem All_own {w : World} {base : Nat} {v : Value} {zs : List Int} (h : w.ownsRow base 5 1 v zs.length (u8s zs)) (hm : zs.length ≤ 1073741824) (hz : IsBytes zs) : Calls Tryz.prog 11 #[v] w (AllPost zs w) := by
  rcases own_cases h with ⟨rfl, h0⟩ | ⟨g, cap, rfl, hr, hc, hn⟩
  · obtain rfl := List.eq_nil_of_length_eq_zero h0
    exact All_nil w
  · refine All_any g 0 cap zs w (by unfold maxLen at hc; omega) (by omega) hn ⟨hr.1, fun j hj => ?_⟩ hz
    rw [hr.2 j (by rw [u8s_length]; exact hj)]
    unfold u8s
    rw [List.getD_eq_getElem?_getD, List.getElem?_map, List.getElem?_eq_getElem hj, List.getD_eq_getElem?_getD, List.getElem?_eq_getElem hj]
    rfl
theorem rds_own {w : World} {base : Nat} {t : TypeId} {size n c : Nat} {A : Option Addr} {xs : List Value} (h : w.ownsRow base t size (.slice A n c) n xs) : G.RdS w A size n xs := G.RdS.of_own h
/-- An instruction of an opcode and a number. -/
def mkIns (at_ op a : Int) : Ins :=
  if kindOf op = 1 then ⟨at_, op, a, 0, 0⟩ else if kindOf op = 2 then ⟨at_, op, 257 * a, 0, 0⟩ else if kindOf op = 3 then ⟨at_, op, a, 255 - a, 256 * a + 255 - a⟩ else ⟨at_, op, 0, 0, 0⟩
theorem mkIns_op (p op a : Int) : (mkIns p op a).op = op ∧ (mkIns p op a).at_ = p := by
  unfold mkIns
  repeat' split
  all_goals exact ⟨rfl, rfl⟩
theorem mkIns_right {p op a : Int} (h0 : 0 ≤ op) (h1 : op < 256) (hk : 0 ≤ kindOf op) (ha : 0 ≤ a ∧ a < 256) : RightI (mkIns p op a) := by
  unfold mkIns RightI
  rcases kind_or op h0 h1 with h | h | h | h | h
  · omega
  · rw [h]; simp [h]
  · rw [h]; simp [h]; omega
  · rw [h]; simp [h]; omega
  · rw [h]; simp [h]; omega
/-- The list that the law lays. -/
structure ThI (w wr : World) (v : Value) (j : Nat) (p : Int) (l : List Ins) : Prop where
  own : wr.ownsRow w.heap.size 55 5 v l.length (flat l)
  bl : Below w.heap.size w wr
  ok : ∀ suf, PutOk p suf → PutOk 0 (l ++ suf)
  len : (bytesOf l).length = p.toNat
  most : p ≤ 5 * j
  pos : 0 ≤ p
  num : l.length ≤ j
  op : ∀ x ∈ l, 0 ≤ x.op ∧ x.op < 256
theorem ThI.below {w wr w' : World} {v : Value} {j : Nat} {p : Int} {l : List Ins} (h : ThI w wr v j p l) (hb : Below wr.heap.size wr w') : ThI w w' v j p l := ⟨Bl.own h.own hb, Bl.tr h.bl hb, h.ok, h.len, h.most, h.pos, h.num, h.op⟩
theorem ThI.skip {w wr : World} {v : Value} {j : Nat} {p : Int} {l : List Ins} (h : ThI w wr v j p l) : ThI w wr v (j + 1) p l := ⟨h.own, h.bl, h.ok, h.len, by have := h.most; omega, h.pos, by have := h.num; omega, h.op⟩
theorem ThI.step {w wr w' : World} {v v' : Value} {j : Nat} {p : Int} {l : List Ins} {x : Ins} (h : ThI w wr v j p l) (hj : j < 4096) (hx : RightI x) (ha : x.at_ = p) (ho : 0 ≤ x.op ∧ x.op < 256)
    (hown : w'.ownsRow w.heap.size 55 5 v' (l.length + 1) (flat l ++ x.cells)) (hg : wr.grownBy w' v.ownBlock) : ThI w w' v' (j + 1) (p + sizeOf x.op) (l ++ [x]) := by
  have hl := hx.len.1
  have hw : sizeOf x.op ≤ 5 ∧ 0 ≤ sizeOf x.op := by
    have := width_le (kindOf x.op)
    unfold sizeOf
    split <;> omega
  have h1 := h.most
  have h2 := h.pos
  refine ⟨?_, Bl.grown h.bl h.own hg, fun suf hs => ?_, ?_, by omega, by omega, by have := h.num; simp; omega, fun y hy => ?_⟩
  · rw [List.length_append, flat_snoc]
    exact hown
  · rw [List.append_assoc]
    refine h.ok _ ⟨ha, hx, by omega, hs⟩
  · have h3 := h.len
    have e : bytesOf (l ++ [x]) = bytesOf l ++ encOf x := by simp [bytesOf]
    rw [e, List.length_append, h3]
    omega
  · rcases List.mem_append.1 hy with hy | hy
    · exact h.op y hy
    · simp only [List.mem_singleton] at hy
      subst hy
      exact ho
theorem ThI.put {w wr : World} {v : Value} {j : Nat} {p : Int} {l : List Ins} (h : ThI w wr v j p l) : PutOk 0 l := by
  have := h.ok [] trivial
  rwa [List.append_nil] at this
/-- As many rows as instructions. -/
theorem rows_text : ∀ (l : List Ins), (∀ x ∈ l, Told x) → (textOf l).count 10 = l.length
  | [], _ => rfl
  | x :: l, h => by
    have hx := h x (by simp)
    have h0 : (bodyL x).count 10 = 0 := List.count_eq_zero.2 (body_no x hx.op.1 hx.op.2 hx.kind hx.at_ hx.small)
    rw [show textOf (x :: l) = bodyL x ++ 10 :: textOf l by simp [textOf, rowText, bodyL], List.count_append, List.count_cons, rows_text l (fun y hy => h y (by simp [hy])), h0]
    simp
    
theorem bytesOf_is : ∀ (l : List Ins) (p : Int), (∀ x ∈ l, 0 ≤ x.op ∧ x.op < 256) → PutOk p l → ∀ z ∈ bytesOf l, 0 ≤ z ∧ z < 256
  | [], _, _, _, z, hz => by simp [bytesOf] at hz
  | x :: l, p, ho, h, z, hz => by
    obtain ⟨ha, hx, hs, hl⟩ := h
    have e : bytesOf (x :: l) = encOf x ++ bytesOf l := by simp [bytesOf]
    rw [e] at hz
    rcases List.mem_append.1 hz with hz | hz
    · have hop := ho x (by simp)
      unfold encOf opBytes at hz
      rcases hx with ⟨hk, h⟩ | ⟨hk, h⟩ | ⟨hk, h⟩ | ⟨hk, h⟩
      all_goals
        rw [hk] at hz
        simp at hz
        omega
    · exact bytesOf_is l _ (fun y hy => ho y (by simp [hy])) hl z hz
theorem isBytes_of {zs : List Int} (h : ∀ z ∈ zs, 0 ≤ z ∧ z < 256) : IsBytes zs := by
  intro j
  rw [List.getD_eq_getElem?_getD]
  cases hj : zs[j]? with
  | none => simp
  | some z => exact h z (List.mem_of_getElem? hj)
end
end Go.Proofs.YtfldicaaaadgaaaGreatDoor.Code

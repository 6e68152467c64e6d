/- A row of instructions, a text of rows: what they are read as; a text that is told is read as what it tells. Plain Lean. -/
import Derived.Test.YtfldicaaaadgaaaGreatDoorCSplitR
import Derived.Test.YtfldicaaaadgaaaGreatDoorCText
import Derived.Test.YtfldicaaaadgaaaGreatDoorCPutAny
namespace Go.Proofs.YtfldicaaaadgaaaGreatDoor.Code
open Go Go.RowKit
set_option linter.unusedVariables false
set_option linter.unusedSimpArgs false
def numsL : List (List UInt8) → Option (List Int)
  | [] => some []
  | q :: qs => match numL q with
    | none => none
    | some n => match numsL qs with
      | none => none
      | some l => some (n :: l)
def arOf (k : Int) : Nat := if k = 0 then 0 else if k = 3 then 3 else 1
def insOf (at_ op : Int) (l : List Int) : Ins := ⟨at_, op, l.getD 0 0, l.getD 1 0, l.getD 2 0⟩
/-- What the row of an opcode makes of the pieces. -/
def rowWith (r : Int × List UInt8 × Int) (a : List UInt8) (ops : List (List UInt8)) : Option Ins :=
  match numL a with
  | none => none
  | some at_ => if ops.length ≠ arOf r.2.2 then none else match numsL ops with
    | none => none
    | some l => some (insOf at_ r.1 l)
def rowL (s : List UInt8) : Option Ins :=
  match splitC 32 s with
  | a :: nm :: ops => match table.find? (fun r => r.2.1 == nm) with
    | none => none
    | some r => rowWith r a ops
  | _ => none
def rowsGo : List (List UInt8) → Nat → List Ins → Except Nat (List Ins)
  | [], _, acc => .ok acc
  | r :: rs, i, acc => match rowL r with
    | none => .error i
    | some x => rowsGo rs (i + 1) (acc ++ [x])
/-- P16.6 -/
def parseOf (s : List UInt8) : List Ins × Int × Int :=
  match rowsGo (splitC 10 s).dropLast 0 [] with
  | .error i => ([], 80, i)
  | .ok l => if (splitC 10 s).getLastD [] ≠ [] then ([], 80, ((splitC 10 s).length : Int) - 1) else if (putOf l).2.1 ≠ 0 then ([], (putOf l).2.1, (putOf l).2.2) else (l, 0, 0)
/-! ### A text that is told -/
theorem dec_facts (u : Nat) : (∀ c ∈ Lib.decDigits u, 48 ≤ c.toNat ∧ c.toNat ≤ 57) ∧ valL 0 (Lib.decDigits u) = u ∧ Lib.decDigits u ≠ [] ∧ (1 ≤ u → (Lib.decDigits u).headD 0 ≠ 48) ∧ (u = 0 → Lib.decDigits u = [48]) := by
  induction u using Nat.strongRecOn with
  | _ u ih =>
    rw [Lib.decDigits]
    by_cases h : u < 10
    · rw [dif_pos h]
      have e : (UInt8.ofNat (48 + u)).toNat = 48 + u := by rw [UInt8.toNat_ofNat']; omega
      refine ⟨fun c hc => ?_, ?_, by simp, fun h2 h3 => ?_, fun h2 => by subst h2; rfl⟩
      · simp only [List.mem_singleton] at hc
        subst hc
        omega
      · rw [valL_cons, valL_nil]
        omega
      · have h4 : UInt8.ofNat (48 + u) = 48 := h3
        have h5 : (UInt8.ofNat (48 + u)).toNat = 48 := by rw [h4]; rfl
        omega
    · rw [dif_neg h]
      obtain ⟨i1, i2, i3, i4, i5⟩ := ih (u / 10) (by omega)
      have e : (UInt8.ofNat (48 + u % 10)).toNat = 48 + u % 10 := by rw [UInt8.toNat_ofNat']; omega
      have hd : (Lib.decDigits (u / 10) ++ [UInt8.ofNat (48 + u % 10)]).headD 0 = (Lib.decDigits (u / 10)).headD 0 := by
        cases hc : Lib.decDigits (u / 10) with
        | nil => exact absurd hc i3
        | cons a t => rfl
      refine ⟨fun c hc => ?_, ?_, by simp, fun h2 => by rw [hd]; exact i4 (by omega), fun h2 => by omega⟩
      · rcases List.mem_append.1 hc with hc | hc
        · exact i1 c hc
        · simp only [List.mem_singleton] at hc
          subst hc
          omega
      · rw [valL_snoc, i2, e]
        omega
theorem itoa_facts (n : Int) (h0 : 0 ≤ n) (h1 : n ≤ 9223372036854775807) : numL (Lib.itoa n) = some n ∧ ∀ c ∈ Lib.itoa n, 48 ≤ c.toNat ∧ c.toNat ≤ 57 := by
  obtain ⟨u, rfl⟩ := Int.eq_ofNat_of_zero_le h0
  rw [Lib.itoa_nonneg]
  obtain ⟨d1, d2, d3, d4, d5⟩ := dec_facts u
  refine ⟨?_, d1⟩
  have hb : badNum (Lib.decDigits u) = false := by
    unfold badNum
    have e1 : (Lib.decDigits u == []) = false := by simpa using d3
    have e2 : (Lib.decDigits u).all isDig = true := List.all_eq_true.2 fun c hc => decide_eq_true (d1 c hc)
    have e3 : decide (most63 < valL 0 (Lib.decDigits u)) = false := by
      rw [d2]
      exact decide_eq_false (by unfold most63; omega)
    have e4 : (decide (1 < (Lib.decDigits u).length) && (Lib.decDigits u).headD 0 == 48) = false := by
      rcases Nat.eq_zero_or_pos u with h | h
      · rw [d5 h]; rfl
      · have : ((Lib.decDigits u).headD 0 == 48) = false := by rw [beq_eq_false_iff_ne]; exact d4 h
        rw [this, Bool.and_false]
    rw [e1, e2, e3, e4]
    rfl
  unfold numL
  rw [hb, if_neg (by decide), d2]
theorem itoa_no (n : Int) (h0 : 0 ≤ n) (h1 : n ≤ 9223372036854775807) (c : UInt8) (hc : c.toNat < 48) : c ∉ Lib.itoa n := fun h => by
  have := ((itoa_facts n h0 h1).2 c h).1
  omega
theorem name_at : ∀ n : Fin 256, 0 ≤ kindOf (n.val : Int) → (table.find? fun r => r.2.1 == nameOf (n.val : Int)) = some ((n.val : Int), nameOf (n.val : Int), kindOf (n.val : Int)) ∧ (nameOf (n.val : Int)).contains 32 = false ∧ (nameOf (n.val : Int)).contains 10 = false := by decide +kernel
theorem name_of (op : Int) (h0 : 0 ≤ op) (h1 : op < 256) (hk : 0 ≤ kindOf op) : (table.find? fun r => r.2.1 == nameOf op) = some (op, nameOf op, kindOf op) ∧ (32 : UInt8) ∉ nameOf op ∧ (10 : UInt8) ∉ nameOf op := by
  obtain ⟨m, rfl⟩ := Int.eq_ofNat_of_zero_le h0
  obtain ⟨a, b, c⟩ := name_at ⟨m, by omega⟩ hk
  exact ⟨a, by simpa using b, by simpa using c⟩
def Small (ns : List Int) : Prop := ∀ m ∈ ns, 0 ≤ m ∧ m ≤ 9223372036854775807
theorem nums_text : ∀ (ns : List Int), Small ns → ∀ a : List UInt8, (32 : UInt8) ∉ a → splitC 32 (a ++ opsText ns) = a :: ns.map Lib.itoa
  | [], _, a, h => by
    rw [show opsText [] = [] from rfl, List.append_nil, splitC_none h]
    rfl
  | n :: ns, hs, a, h => by
    have h1 := hs n (by simp)
    rw [show opsText (n :: ns) = 32 :: (Lib.itoa n ++ opsText ns) by simp [opsText], splitC_app h, nums_text ns (fun m hm => hs m (by simp [hm])) _ (itoa_no n h1.1 h1.2 32 (by decide))]
    rfl
theorem numsL_itoa : ∀ (ns : List Int), Small ns → numsL (ns.map Lib.itoa) = some ns
  | [], _ => rfl
  | n :: ns, hs => by
    have h1 := hs n (by simp)
    rw [List.map_cons, numsL, (itoa_facts n h1.1 h1.2).1]
    simp only
    rw [numsL_itoa ns (fun m hm => hs m (by simp [hm]))]
def bodyL (x : Ins) : List UInt8 := Lib.itoa x.at_ ++ [32] ++ nameOf x.op ++ opsText (numsOf x (kindOf x.op))
theorem rowL_body {x : Ins} (h0 : 0 ≤ x.op) (h1 : x.op < 256) (hk : 0 ≤ kindOf x.op) (ha : 0 ≤ x.at_ ∧ x.at_ ≤ 9223372036854775807) (hs : Small (numsOf x (kindOf x.op))) (hi : insOf x.at_ x.op (numsOf x (kindOf x.op)) = x) : rowL (bodyL x) = some x := by
  obtain ⟨n1, n2, n3⟩ := name_of x.op h0 h1 hk
  have hlen : (numsOf x (kindOf x.op)).length = arOf (kindOf x.op) := by
    unfold numsOf arOf
    split
    · rfl
    · split <;> rfl
  have hsp : splitC 32 (bodyL x) = Lib.itoa x.at_ :: nameOf x.op :: (numsOf x (kindOf x.op)).map Lib.itoa := by
    rw [show bodyL x = Lib.itoa x.at_ ++ 32 :: (nameOf x.op ++ opsText (numsOf x (kindOf x.op))) by simp [bodyL], splitC_app (itoa_no _ ha.1 ha.2 32 (by decide)), nums_text _ hs _ n2]
  unfold rowL
  rw [hsp]
  simp only
  rw [n1]
  simp only
  unfold rowWith
  rw [(itoa_facts _ ha.1 ha.2).1]
  simp only
  rw [List.length_map, if_neg (by rw [hlen]; exact fun h => h rfl), numsL_itoa _ hs]
  simp only
  rw [hi]
theorem body_no (x : Ins) (h0 : 0 ≤ x.op) (h1 : x.op < 256) (hk : 0 ≤ kindOf x.op) (ha : 0 ≤ x.at_ ∧ x.at_ ≤ 9223372036854775807) (hs : Small (numsOf x (kindOf x.op))) : (10 : UInt8) ∉ bodyL x := by
  obtain ⟨n1, n2, n3⟩ := name_of x.op h0 h1 hk
  unfold bodyL
  intro h
  rcases List.mem_append.1 h with h | h
  · rcases List.mem_append.1 h with h | h
    · rcases List.mem_append.1 h with h | h
      · exact itoa_no _ ha.1 ha.2 10 (by decide) h
      · simp at h
    · exact n3 h
  · unfold opsText at h
    obtain ⟨n, hn, hc⟩ := List.mem_flatMap.1 h
    rcases List.mem_cons.1 hc with hc | hc
    · revert hc; decide
    · exact itoa_no n (hs n hn).1 (hs n hn).2 10 (by decide) hc
/-- What an instruction must be to be told and read. -/
structure Told (x : Ins) : Prop where
  op : 0 ≤ x.op ∧ x.op < 256
  kind : 0 ≤ kindOf x.op
  at_ : 0 ≤ x.at_ ∧ x.at_ ≤ 9223372036854775807
  small : Small (numsOf x (kindOf x.op))
  ins : insOf x.at_ x.op (numsOf x (kindOf x.op)) = x
theorem split_text : ∀ (l : List Ins), (∀ x ∈ l, Told x) → splitC 10 (textOf l) = l.map bodyL ++ [[]]
  | [], _ => rfl
  | x :: l, h => by
    have hx := h x (by simp)
    rw [show textOf (x :: l) = bodyL x ++ 10 :: textOf l by simp [textOf, rowText, bodyL], splitC_app (body_no x hx.op.1 hx.op.2 hx.kind hx.at_ hx.small), split_text l (fun y hy => h y (by simp [hy]))]
    rfl
theorem rowsGo_bodies : ∀ (l : List Ins) (i : Nat) (acc : List Ins), (∀ x ∈ l, Told x) → rowsGo (l.map bodyL) i acc = .ok (acc ++ l)
  | [], i, acc, _ => by rw [List.map_nil, rowsGo, List.append_nil]
  | x :: l, i, acc, h => by
    have hx := h x (by simp)
    rw [List.map_cons, rowsGo, rowL_body hx.op.1 hx.op.2 hx.kind hx.at_ hx.small hx.ins]
    simp only
    rw [rowsGo_bodies l (i + 1) _ (fun y hy => h y (by simp [hy])), List.append_assoc]
    rfl
theorem parse_text {l : List Ins} (h : ∀ x ∈ l, Told x) (hp : (putOf l).2.1 = 0) : parseOf (textOf l) = (l, 0, 0) := by
  unfold parseOf
  rw [split_text l h, List.dropLast_concat, rowsGo_bodies l 0 [] h]
  simp only [List.nil_append]
  rw [if_neg (by simp), if_neg (by simpa using hp)]
end Go.Proofs.YtfldicaaaadgaaaGreatDoor.Code

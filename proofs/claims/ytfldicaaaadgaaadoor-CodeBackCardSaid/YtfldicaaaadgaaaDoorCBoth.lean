/- Instructions that are put are read as themselves, and bytes that are read are put as themselves. Plain Lean. -/
import Derived.Test.YtfldicaaaadgaaaDoorCRow
import Derived.Test.YtfldicaaaadgaaaDoorCAll
namespace Go.Proofs.YtfldicaaaadgaaaDoor.Code
open Go Go.RowKit
set_option linter.unusedVariables false
set_option linter.unusedSimpArgs false
theorem getI_mid {P U R : List Int} {i : Nat} (h : i < U.length) : (P ++ (U ++ R)).getD (P.length + i) 0 = U.getD i 0 := by
  simp only [List.getD_eq_getElem?_getD]
  rw [List.getElem?_append_right (by omega), show P.length + i - P.length = i by omega, List.getElem?_append_left h]
theorem told_of {x : Ins} (hop : 0 ≤ x.op ∧ x.op < 256) (ha : 0 ≤ x.at_ ∧ x.at_ ≤ 9223372036854775807) (h : RightI x) : Told x := by
  refine ⟨hop, by have := h.kind; omega, ha, fun m hm => ?_, ?_⟩
  · have := h.nums m hm
    omega
  · obtain ⟨at_, op, a, b, c⟩ := x
    unfold insOf numsOf
    rcases h with ⟨hk, h⟩ | ⟨hk, h⟩ | ⟨hk, h⟩ | ⟨hk, h⟩
    all_goals
      simp only at hk h
      simp only [hk]
    · obtain ⟨rfl, rfl, rfl⟩ := h; rfl
    · obtain ⟨_, rfl, rfl⟩ := h; rfl
    · obtain ⟨_, rfl, rfl⟩ := h; rfl
    · rfl
theorem readAt_enc {x : Ins} {P R : List Int} (h : RightI x) (ha : x.at_ = (P.length : Int)) : readAt (P ++ (encOf x ++ R)) (P.length : Int) = (x, 0) := by
  have hl := h.len.1
  have hlen : (P ++ (encOf x ++ R)).length = P.length + ((encOf x).length + R.length) := by simp
  have hsz : sizeOf x.op = 1 + width (kindOf x.op) := by
    unfold sizeOf
    rw [if_neg (by have := h.kind; omega)]
  have hw := width_le (kindOf x.op)
  have g : ∀ i, i < (encOf x).length → (P ++ (encOf x ++ R)).getD (P.length + i) 0 = (encOf x).getD i 0 := fun i hi => getI_mid hi
  have g0 : (P ++ (encOf x ++ R)).getD P.length 0 = x.op := by
    have := g 0 (by omega)
    rw [Nat.add_zero] at this
    rw [this]
    rfl
  unfold readAt
  rw [if_neg (by rw [hlen]; omega)]
  simp only [Int.toNat_natCast]
  rw [g0, if_neg (by have := h.kind; omega), if_neg (by rw [hlen]; omega)]
  obtain ⟨at_, op, a, b, c⟩ := x
  simp only at ha hl hsz h g g0
  subst ha
  rcases h with ⟨hk, h⟩ | ⟨hk, h⟩ | ⟨hk, h⟩ | ⟨hk, h⟩
  · simp only at hk h
    obtain ⟨rfl, rfl, rfl⟩ := h
    simp only [hk]
    rfl
  · simp only at hk h
    obtain ⟨_, rfl, rfl⟩ := h
    have he : encOf ⟨(P.length : Int), op, a, 0, 0⟩ = [op, a] := by simp [encOf, opBytes, hk]
    rw [he] at g ⊢
    simp only [hk]
    rw [if_pos trivial, g 1 (by simp)]
    rfl
  · simp only at hk h
    obtain ⟨_, rfl, rfl⟩ := h
    have he : encOf ⟨(P.length : Int), op, a, 0, 0⟩ = [op, a / 256, a % 256] := by simp [encOf, opBytes, hk]
    rw [he] at g ⊢
    simp only [hk]
    rw [if_neg (by decide), if_pos trivial, g 1 (by simp), g 2 (by simp)]
    have e : a / 256 * 256 + a % 256 = a := by omega
    simp [e]
  · simp only at hk h
    have he : encOf ⟨(P.length : Int), op, a, b, c⟩ = [op, a, b, c / 256, c % 256] := by simp [encOf, opBytes, hk]
    rw [he] at g ⊢
    simp only [hk]
    rw [if_neg (by decide), if_neg (by decide), if_pos trivial, g 1 (by simp), g 2 (by simp), g 3 (by simp), g 4 (by simp)]
    have e : c / 256 * 256 + c % 256 = c := by omega
    simp [e]
theorem allGo_put : ∀ (suf pre acc : List Ins) (f : Nat), PutOk ((bytesOf pre).length : Int) suf → (bytesOf suf).length < f → allGo (bytesOf pre ++ bytesOf suf) f ((bytesOf pre).length : Int) acc = (acc ++ suf, 0, 0)
  | [], pre, acc, f, _, hf => by
    rw [show bytesOf [] = [] from rfl, List.append_nil, List.append_nil]
    exact allGo_end (by omega)
  | x :: suf, pre, acc, f, h, hf => by
    obtain ⟨f, rfl⟩ : ∃ g, f = g + 1 := ⟨f - 1, by omega⟩
    obtain ⟨ha, hx, hs, hl⟩ := h
    have hb : bytesOf (x :: suf) = encOf x ++ bytesOf suf := by simp [bytesOf]
    have hr := readAt_enc (P := bytesOf pre) (R := bytesOf suf) hx ha
    have hlen := hx.len.1
    have hpos : 1 ≤ (encOf x).length := by simp [encOf]
    rw [hb, allGo_step (by rw [List.length_append, List.length_append]; omega) (by rw [hr]), hr]
    simp only
    have hpre : bytesOf (pre ++ [x]) = bytesOf pre ++ encOf x := by simp [bytesOf]
    have e : ((bytesOf pre).length : Int) + sizeOf x.op = ((bytesOf (pre ++ [x])).length : Int) := by rw [hpre, List.length_append]; omega
    rw [e] at hl ⊢
    rw [← List.append_assoc, ← hpre, allGo_put suf (pre ++ [x]) (acc ++ [x]) f hl (by rw [hb, List.length_append] at hf; omega), List.append_assoc]
    rfl
theorem allOf_put {l : List Ins} (h : PutOk 0 l) : allOf (bytesOf l) = (l, 0, 0) := by
  have := allGo_put l [] [] ((bytesOf l).length + 1) h (by omega)
  exact this
/-- What is put without a refusal. -/
theorem putGo_put : ∀ (suf pre : List Ins) (i : Nat), (∀ x ∈ suf, 0 ≤ x.op ∧ x.op < 256) → PutOk ((bytesOf pre).length : Int) suf → putGo suf (bytesOf pre) i = (bytesOf pre ++ bytesOf suf, 0, 0)
  | [], pre, i, _, _ => by rw [putGo, show bytesOf [] = [] from rfl, List.append_nil]
  | x :: suf, pre, i, ho, h => by
    obtain ⟨ha, hx, hs, hl⟩ := h
    have hlen := hx.len.1
    have hpre : bytesOf (pre ++ [x]) = bytesOf pre ++ encOf x := by simp [bytesOf]
    have e : ((bytesOf pre).length : Int) + sizeOf x.op = ((bytesOf (pre ++ [x])).length : Int) := by rw [hpre, List.length_append]; omega
    rw [putGo, if_neg (by have := hx.kind; omega), if_neg (by rintro (h | h); exact h hx; exact h ha), if_neg (by omega), ← hpre, putGo_put suf (pre ++ [x]) (i + 1) (fun y hy => ho y (by simp [hy])) (by rw [← e]; exact hl), hpre]
    simp [bytesOf]
theorem putOf_put {l : List Ins} (ho : ∀ x ∈ l, 0 ≤ x.op ∧ x.op < 256) (h : PutOk 0 l) : putOf l = (bytesOf l, 0, 0) := putGo_put l [] 0 ho h
theorem PutOk.told : ∀ {l : List Ins} {p : Int}, 0 ≤ p → p ≤ 65535 → (∀ x ∈ l, 0 ≤ x.op ∧ x.op < 256) → PutOk p l → ∀ x ∈ l, Told x
  | [], _, _, _, _, _, x, hx => by cases hx
  | y :: l, p, hp, hp2, ho, h, x, hx => by
    obtain ⟨ha, hy, hs, hl⟩ := h
    have hlen := hy.len.1
    rcases List.mem_cons.1 hx with rfl | hx
    · exact told_of (ho x (by simp)) (by omega) hy
    · exact PutOk.told (by omega) hs (fun z hz => ho z (by simp [hz])) hl x hx
end Go.Proofs.YtfldicaaaadgaaaDoor.Code

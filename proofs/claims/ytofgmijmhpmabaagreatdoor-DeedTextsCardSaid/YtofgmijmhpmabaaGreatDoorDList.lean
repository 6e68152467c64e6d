/- Lists of lists that are changed at a place, cards that go from one to another, orders: plain Lean. -/
import Derived.Test.YtofgmijmhpmabaaGreatDoorDBase
namespace Go.Proofs.YtofgmijmhpmabaaGreatDoor.D
open Go Go.RowKit
set_option linter.unusedVariables false
set_option linter.unusedSimpArgs false
theorem getD_lt {α : Type} {l : List α} {d : α} {i : Nat} (h : i < l.length) : l.getD i d = l[i] := by
  rw [List.getD_eq_getElem?_getD, List.getElem?_eq_getElem h]
  rfl
theorem getD_set_eq {α : Type} {l : List α} {d a : α} {i : Nat} (h : i < l.length) : (l.set i a).getD i d = a := by
  rw [List.getD_eq_getElem?_getD, List.getElem?_set_self h]
  rfl
theorem getD_set_ne {α : Type} {l : List α} {d a : α} {i j : Nat} (h : i ≠ j) : (l.set i a).getD j d = l.getD j d := by
  rw [List.getD_eq_getElem?_getD, List.getD_eq_getElem?_getD, List.getElem?_set_ne h]
theorem set_self {α : Type} {l : List α} {d : α} {i : Nat} (h : i < l.length) : l.set i (l.getD i d) = l := by
  rw [getD_lt h]
  exact List.set_getElem_self h
theorem mem_getD {α : Type} {l : List α} {d : α} {i : Nat} (h : i < l.length) : l.getD i d ∈ l := by
  rw [getD_lt h]
  exact List.getElem_mem h
theorem ext_getD {α : Type} {l m : List α} (d : α) (h : l.length = m.length) (hi : ∀ i, i < l.length → l.getD i d = m.getD i d) : l = m := by
  refine List.ext_getElem h fun i h1 h2 => ?_
  have := hi i h1
  rwa [getD_lt h1, getD_lt h2] at this
/-! ### One out, one in -/
theorem erase_count (x : Int) : ∀ (l : List Int) (i : Nat), i < l.length → (l.eraseIdx i).count x + (if l.getD i 0 = x then 1 else 0) = l.count x
  | a :: l, 0, _ => by
    rw [List.eraseIdx_cons_zero, List.count_cons]
    simp
  | a :: l, i + 1, h => by
    have ih := erase_count x l i (by simp at h; omega)
    rw [List.eraseIdx_cons_succ, List.count_cons, List.count_cons]
    have e : (a :: l).getD (i + 1) 0 = l.getD i 0 := rfl
    rw [e]
    omega
theorem insert_count (x a : Int) : ∀ (l : List Int) (i : Nat), i ≤ l.length → (l.insertIdx i a).count x = l.count x + (if a = x then 1 else 0)
  | l, 0, _ => by
    rw [List.insertIdx_zero, List.count_cons]
    simp
  | b :: l, i + 1, h => by
    have ih := insert_count x a l i (by simp at h; omega)
    rw [List.insertIdx_succ_cons, List.count_cons, List.count_cons, ih]
    omega
theorem erase_length {l : List Int} {i : Nat} (h : i < l.length) : (l.eraseIdx i).length = l.length - 1 := by
  rw [List.length_eraseIdx, if_pos h]
theorem insert_length {l : List Int} {a : Int} {i : Nat} (h : i ≤ l.length) : (l.insertIdx i a).length = l.length + 1 := by
  rw [List.length_insertIdx, if_pos h]
theorem erase_insert (a : Int) : ∀ (l : List Int) (i : Nat), i ≤ l.length → (l.insertIdx i a).eraseIdx i = l
  | l, 0, _ => by simp
  | b :: l, i + 1, h => by
    rw [List.insertIdx_succ_cons, List.eraseIdx_cons_succ, erase_insert a l i (by simp at h; omega)]
theorem insert_erase : ∀ (l : List Int) (i : Nat), i < l.length → (l.eraseIdx i).insertIdx i (l.getD i 0) = l
  | a :: l, 0, _ => by simp
  | a :: l, i + 1, h => by
    have e : (a :: l).getD (i + 1) 0 = l.getD i 0 := rfl
    rw [List.eraseIdx_cons_succ, List.insertIdx_succ_cons, e, insert_erase l i (by simp at h; omega)]
theorem insert_at (a : Int) : ∀ (l : List Int) (i : Nat), i ≤ l.length → (l.insertIdx i a).getD i 0 = a
  | l, 0, _ => by simp
  | b :: l, i + 1, h => by
    rw [List.insertIdx_succ_cons]
    exact insert_at a l i (by simp at h; omega)
theorem count_set (x : Int) : ∀ (zs : List (List Int)) (i : Nat) (l : List Int), i < zs.length → (zs.set i l).flatten.count x + (zs.getD i []).count x = zs.flatten.count x + l.count x
  | z :: zs, 0, l, _ => by
    rw [List.set_cons_zero, List.flatten_cons, List.flatten_cons, List.count_append, List.count_append]
    have e : (z :: zs).getD 0 [] = z := rfl
    rw [e]
    omega
  | z :: zs, i + 1, l, h => by
    have ih := count_set x zs i l (by simp at h; omega)
    rw [List.set_cons_succ, List.flatten_cons, List.flatten_cons, List.count_append, List.count_append]
    have e : (z :: zs).getD (i + 1) [] = zs.getD i [] := rfl
    rw [e]
    omega
/-! ### A card goes from a place to another one -/
structure MvOk (zs : List (List Int)) (card : Int) (s sa d da : Nat) : Prop where
  hs : s < zs.length
  hd : d < zs.length
  ne : ¬ (s = d ∧ sa = da)
  hsa : sa < (zs.getD s []).length
  at_ : (zs.getD s []).getD sa 0 = card
  hda : da ≤ (if s = d then (zs.getD d []).length - 1 else (zs.getD d []).length)
def mvZ (zs : List (List Int)) (card : Int) (s sa d da : Nat) : List (List Int) :=
  let z1 := zs.set s ((zs.getD s []).eraseIdx sa)
  z1.set d ((z1.getD d []).insertIdx da card)
theorem mv_same {zs : List (List Int)} {card : Int} {s sa da : Nat} (h : s < zs.length) : mvZ zs card s sa s da = zs.set s (((zs.getD s []).eraseIdx sa).insertIdx da card) := by
  unfold mvZ
  simp only
  rw [getD_set_eq h, List.set_set]
theorem mv_other {zs : List (List Int)} {card : Int} {s sa d da : Nat} (hn : s ≠ d) : mvZ zs card s sa d da = (zs.set s ((zs.getD s []).eraseIdx sa)).set d ((zs.getD d []).insertIdx da card) := by
  unfold mvZ
  simp only
  rw [getD_set_ne hn]
theorem mv_length (zs : List (List Int)) (card : Int) (s sa d da : Nat) : (mvZ zs card s sa d da).length = zs.length := by simp [mvZ]
theorem mv_count {zs : List (List Int)} {card : Int} {s sa d da : Nat} (h : MvOk zs card s sa d da) (x : Int) : (mvZ zs card s sa d da).flatten.count x = zs.flatten.count x := by
  have e1 := erase_count x _ _ h.hsa
  rw [h.at_] at e1
  by_cases hs : s = d
  · subst hs
    have hda := h.hda
    rw [if_pos rfl] at hda
    rw [mv_same h.hs]
    have c1 := count_set x zs s (((zs.getD s []).eraseIdx sa).insertIdx da card) h.hs
    have e2 := insert_count x card ((zs.getD s []).eraseIdx sa) da (by rw [erase_length h.hsa]; exact hda)
    omega
  · have hda := h.hda
    rw [if_neg hs] at hda
    rw [mv_other hs]
    have c1 := count_set x zs s ((zs.getD s []).eraseIdx sa) h.hs
    have c2 := count_set x (zs.set s ((zs.getD s []).eraseIdx sa)) d ((zs.getD d []).insertIdx da card) (by rw [List.length_set]; exact h.hd)
    rw [getD_set_ne hs] at c2
    have e2 := insert_count x card (zs.getD d []) da hda
    omega
theorem mv_perm {zs : List (List Int)} {card : Int} {s sa d da : Nat} (h : MvOk zs card s sa d da) : (mvZ zs card s sa d da).flatten.Perm zs.flatten := List.perm_iff_count.2 (mv_count h)
theorem mv_back {zs : List (List Int)} {card : Int} {s sa d da : Nat} (h : MvOk zs card s sa d da) : MvOk (mvZ zs card s sa d da) card d da s sa ∧ mvZ (mvZ zs card s sa d da) card d da s sa = zs := by
  by_cases hs : s = d
  · subst hs
    have hda := h.hda
    rw [if_pos rfl] at hda
    have hle : da ≤ ((zs.getD s []).eraseIdx sa).length := by rw [erase_length h.hsa]; exact hda
    have hpos := h.hsa
    rw [mv_same h.hs]
    have hl : s < (zs.set s (((zs.getD s []).eraseIdx sa).insertIdx da card)).length := by rw [List.length_set]; exact h.hs
    refine ⟨⟨hl, hl, fun e => h.ne ⟨rfl, e.2.symm⟩, ?_, ?_, ?_⟩, ?_⟩
    · rw [getD_set_eq h.hs, insert_length hle, erase_length h.hsa]
      omega
    · rw [getD_set_eq h.hs]
      exact insert_at card _ _ hle
    · rw [if_pos rfl, getD_set_eq h.hs, insert_length hle, erase_length h.hsa]
      omega
    · rw [mv_same hl, getD_set_eq h.hs, List.set_set, erase_insert card _ _ hle]
      have := insert_erase _ _ h.hsa
      rw [h.at_] at this
      rw [this]
      exact set_self h.hs
  · have hda := h.hda
    rw [if_neg hs] at hda
    have hd : d ≠ s := fun e => hs e.symm
    rw [mv_other hs]
    have hl1 : s < (zs.set s ((zs.getD s []).eraseIdx sa)).length := by rw [List.length_set]; exact h.hs
    have hl2 : d < (zs.set s ((zs.getD s []).eraseIdx sa)).length := by rw [List.length_set]; exact h.hd
    have gs : ((zs.set s ((zs.getD s []).eraseIdx sa)).set d ((zs.getD d []).insertIdx da card)).getD s [] = (zs.getD s []).eraseIdx sa := by rw [getD_set_ne hd, getD_set_eq h.hs]
    have gd : ((zs.set s ((zs.getD s []).eraseIdx sa)).set d ((zs.getD d []).insertIdx da card)).getD d [] = (zs.getD d []).insertIdx da card := getD_set_eq hl2
    refine ⟨⟨by rw [List.length_set]; exact hl2, by rw [List.length_set]; exact hl1, fun e => hd e.1, ?_, ?_, ?_⟩, ?_⟩
    · rw [gd, insert_length hda]
      omega
    · rw [gd]
      exact insert_at card _ _ hda
    · rw [if_neg hd, gs, erase_length h.hsa]
      have := h.hsa
      omega
    · rw [mv_other hd, gd, gs, erase_insert card _ _ hda, List.set_set]
      have := insert_erase _ _ h.hsa
      rw [h.at_] at this
      rw [this, List.set_comm _ _ hs, List.set_set]
      rw [← List.set_comm _ _ hs, set_self h.hs, set_self h.hd]
theorem nodup_getD {l : List Int} (h : l.Nodup) {i j : Nat} (hi : i < l.length) (hj : j < l.length) (e : l.getD i 0 = l.getD j 0) : i = j := by
  rw [getD_lt hi, getD_lt hj] at e
  exact (List.getElem_inj h).1 e
theorem nodup_zone {zs : List (List Int)} (h : zs.flatten.Nodup) {i : Nat} (hi : i < zs.length) : (zs.getD i []).Nodup := by
  exact h.sublist (List.sublist_flatten_of_mem (mem_getD hi))
theorem mv_ne {zs : List (List Int)} {card : Int} {s sa d da : Nat} (h : MvOk zs card s sa d da) (hn : zs.flatten.Nodup) : mvZ zs card s sa d da ≠ zs := by
  intro e
  have hb := (mv_back h).1
  rw [e] at hb
  by_cases hs : s = d
  · subst hs
    have hda := h.hda
    have hpos := h.hsa
    rw [if_pos rfl] at hda
    have := nodup_getD (nodup_zone hn h.hs) h.hsa hb.hsa (by rw [h.at_, hb.at_])
    exact h.ne ⟨rfl, this⟩
  · have hl := congrArg (fun z : List (List Int) => (z.getD s []).length) e
    rw [mv_other hs, getD_set_ne (fun e => hs e.symm), getD_set_eq h.hs, erase_length h.hsa] at hl
    have := h.hsa
    omega
/-! ### Orders -/
theorem nodup_perm : ∀ (l m : List Int), l.Nodup → (∀ x ∈ l, x ∈ m) → m.length ≤ l.length → l.Perm m
  | [], m, _, _, h => by
    obtain rfl : m = [] := List.eq_nil_of_length_eq_zero (by simpa using h)
    exact List.Perm.refl _
  | a :: l, m, hn, hs, h => by
    have ha := hs a (by simp)
    obtain ⟨h1, h2⟩ := List.nodup_cons.1 hn
    have hl := List.length_erase_of_mem ha
    have ih := nodup_perm l (m.erase a) h2 (fun x hx => (List.mem_erase_of_ne (fun e => h1 (by rw [← e]; exact hx))).2 (hs x (by simp [hx]))) (by simp at h; omega)
    exact (ih.cons a).trans (List.perm_cons_erase ha).symm
theorem order_perm {l : List Int} {n : Nat} (h : IsOrder l n) : l.Perm ((List.range n).map Int.ofNat) := by
  obtain ⟨hl, hr, hn⟩ := h
  refine nodup_perm _ _ hn (fun x hx => ?_) (by simp [hl])
  obtain ⟨h0, h1⟩ := hr x hx
  exact List.mem_map.2 ⟨x.toNat, List.mem_range.2 (by omega), by simp; omega⟩
theorem range_getD (l : List Int) : (List.range l.length).map (fun j => l.getD j 0) = l := by
  refine ext_getD 0 (by simp) fun i hi => ?_
  have hi2 : i < l.length := by simpa using hi
  rw [getD_lt hi]
  simp [getD_lt hi2]
theorem shufF_perm {order l : List Int} (h : IsOrder order l.length) : (shufF order l).Perm l := by
  unfold shufF
  have := (order_perm h).map (fun k : Int => l.getD k.toNat 0)
  rw [List.map_map] at this
  refine this.trans (List.Perm.of_eq ?_)
  conv => rhs; rw [← range_getD l]
  rfl
theorem shufF_length (order l : List Int) : (shufF order l).length = order.length := by simp [shufF]
theorem shufB_length (order l : List Int) : (shufB order l).length = order.length := by simp [shufB]
theorem shufF_at {order l : List Int} {i : Nat} (h : i < order.length) : (shufF order l).getD i 0 = l.getD (order.getD i 0).toNat 0 := by
  rw [getD_lt (by rw [shufF_length]; exact h), getD_lt h]
  simp [shufF]
theorem shufB_at {order l : List Int} {j : Nat} (h : j < order.length) : (shufB order l).getD j 0 = l.getD (order.idxOf (j : Int)) 0 := by
  rw [getD_lt (by rw [shufB_length]; exact h)]
  simp [shufB]
theorem order_idx {order : List Int} {n : Nat} (h : IsOrder order n) {i : Nat} (hi : i < n) : order.idxOf (order.getD i 0) = i := by
  have hl := h.1
  rw [getD_lt (by omega)]
  exact List.Nodup.idxOf_getElem h.2.2 i (by omega)
theorem order_mem {order : List Int} {n : Nat} (h : IsOrder order n) {j : Nat} (hj : j < n) : (j : Int) ∈ order := by
  rw [(order_perm h).mem_iff]
  exact List.mem_map.2 ⟨j, List.mem_range.2 hj, rfl⟩
theorem order_at {order : List Int} {n : Nat} (h : IsOrder order n) {j : Nat} (hj : j < n) : order.idxOf (j : Int) < n ∧ order.getD (order.idxOf (j : Int)) 0 = j := by
  have hm := order_mem h hj
  have hi := List.idxOf_lt_length_of_mem hm
  refine ⟨by rw [← h.1]; exact hi, ?_⟩
  rw [getD_lt hi]
  exact List.getElem_idxOf hi
theorem shuf_fb {order l : List Int} (h : IsOrder order l.length) : shufF order (shufB order l) = l := by
  have hl := h.1
  refine ext_getD 0 (by rw [shufF_length, hl]) fun i hi => ?_
  rw [shufF_length] at hi
  obtain ⟨h0, h1⟩ := h.2.1 _ (mem_getD (d := 0) hi)
  rw [shufF_at hi, shufB_at (by omega)]
  have e : (((order.getD i 0).toNat : Nat) : Int) = order.getD i 0 := by omega
  rw [e, order_idx h (by omega)]
theorem shuf_bf {order l : List Int} (h : IsOrder order l.length) : shufB order (shufF order l) = l := by
  have hl := h.1
  refine ext_getD 0 (by rw [shufB_length, hl]) fun j hj => ?_
  rw [shufB_length] at hj
  obtain ⟨h1, h2⟩ := order_at h (j := j) (by omega)
  rw [shufB_at hj, shufF_at (by omega), h2]
  simp
theorem shufB_perm {order l : List Int} (h : IsOrder order l.length) : (shufB order l).Perm l := by
  have h2 : IsOrder order (shufB order l).length := by rw [shufB_length, h.1]; exact h
  have := shufF_perm h2
  rw [shuf_fb h] at this
  exact this.symm
theorem shuf_ne {order l : List Int} (h : IsOrder order l.length) (hn : l.Nodup) (hr : ¬ Rises order) : shufF order l ≠ l := by
  intro e
  refine hr (ext_getD 0 (by simp) fun i hi => ?_)
  have hl := h.1
  obtain ⟨h0, h1⟩ := h.2.1 _ (mem_getD (d := 0) hi)
  have := shufF_at (l := l) hi
  rw [e] at this
  have e2 := nodup_getD hn (by omega) (by omega) this
  rw [getD_lt (l := (List.range order.length).map Int.ofNat) (by simpa using hi), List.getElem_map, List.getElem_range]
  show _ = (i : Int)
  omega
theorem set_perm {zs : List (List Int)} {i : Nat} {l : List Int} (hi : i < zs.length) (h : l.Perm (zs.getD i [])) : (zs.set i l).flatten.Perm zs.flatten := by
  refine List.perm_iff_count.2 fun x => ?_
  have := count_set x zs i l hi
  have e := h.count_eq x
  omega
end Go.Proofs.YtofgmijmhpmabaaGreatDoor.D

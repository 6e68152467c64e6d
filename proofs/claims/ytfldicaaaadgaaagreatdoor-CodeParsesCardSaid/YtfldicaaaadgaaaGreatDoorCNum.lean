/- The contract of code.numbers; laws on builders and rows that a round carries. -/
import Derived.Test.YtfldicaaaadgaaaGreatDoorCPut
import Derived.Test.YtfldicaaaadgaaaGreatDoorCBuilder
namespace Go.Proofs.YtfldicaaaadgaaaGreatDoor.Code
open Go.RowKit
set_option linter.unusedVariables false
set_option linter.unusedSimpArgs false
def numsOf (x : Ins) (k : Int) : List Int := if k = 0 then [] else if k = 3 then [x.a, x.b, x.c] else [x.a]
def i64s (l : List Int) : List Value := l.map (Value.int .i64)
def NumPost (w : World) (l : List Int) (e : Ending) (w' : World) : Prop := ∃ v, e = .returned v ∧ w'.ownsRow w.heap.size 3 1 v l.length (i64s l) ∧ Below w.heap.size w w'
set_option maxHeartbeats 400000 in
theorem numbers_any (x : Ins) (k : Int) (w : World) : Calls Tryz.prog 46 #[x.val, .int .i64 k] w (NumPost w (numsOf x k)) := by
  obtain ⟨xa, xo, a, b, c⟩ := x
  unfold Ins.val
  by_cases h0 : k = 0
  · subst h0
    go_enter Tryz.func46, Tryz.ntmps46
    go_wp2
    go_ret
    exact ⟨_, rfl, World.ownsRow_nil _ _ _ _, by repeat (first | (with_reducible apply Bl.al) | (with_reducible exact Below.refl _ _))⟩
  · by_cases h3 : k = 3
    · subst h3
      go_enter Tryz.func46, Tryz.ntmps46
      go_wp2
      go_ret
      exact ⟨_, rfl, own_new _ [.int .i64 a, .int .i64 b, .int .i64 c] 3 _ _ (by simp) (by simp) (by simp [maxLen]), by repeat (first | (with_reducible apply Bl.al) | (with_reducible exact Below.refl _ _))⟩
    · have hn : numsOf ⟨xa, xo, a, b, c⟩ k = [a] := by unfold numsOf; rw [if_neg h0, if_neg h3]
      have HN := Lib.hid hn
      clear hn
      go_enter Tryz.func46, Tryz.ntmps46
      go_wp2
      go_ret
      exact ⟨_, rfl, by rw [HN.out]; exact own_new _ [.int .i64 a] 3 _ _ (by simp) (by simp) (by simp [maxLen]), by repeat (first | (with_reducible apply Bl.al) | (with_reducible exact Below.refl _ _))⟩
theorem bat_below {B b : Nat} {p : Value} {bs : List Value} {w w' : World} (h : Lib.BuilderAt 82 5 B b p bs w) (hb : Below w.heap.size w w') : Lib.BuilderAt 82 5 B b p bs w' := by
  have hlt := h.lt
  obtain ⟨hB, v, hbk, hown, hne⟩ := h
  exact ⟨hB, v, (hb.block b hlt).trans hbk, Bl.own hown hb, hne⟩
theorem isb_below {B b : Nat} {bs : List Value} {w w' : World} (h : Lib.IsBuilder 82 5 B b bs w) (hb : Below w.heap.size w w') : Lib.IsBuilder 82 5 B b bs w' :=
  h.imp (fun h => bat_below h hb) (fun h => bat_below h hb)
theorem blk_below {w w' : World} {k : Nat} {o : Obj} (h : w.heap[k]? = some o) (hb : Below w.heap.size w w') : w'.heap[k]? = some o :=
  (hb.block k (Array.getElem?_eq_some_iff.1 h).1).trans h
theorem blk_kept {w w' : World} {b k : Nat} {c : Array Value} {t : TypeId} {fr : Nat × Nat} (h : w.heap[k]? = some (.cells c t fr)) (ho : Lib.OthersKept 5 (some b) w w') (hk : k ≠ b) (ht : t ≠ 5) : w'.heap[k]? = some (.cells c t fr) :=
  ho k _ h (fun e => hk (Option.some.inj e)) (fun c' fz e => by injection e with _ e2 _; exact ht e2)
theorem own_kept {w w' : World} {b base : Nat} {t : TypeId} {v : Value} {n : Nat} {xs : List Value} (h : w.ownsRow base t 1 v n xs) (ho : Lib.OthersKept 5 (some b) w w') (hk : b < base) (ht : t ≠ 5) : w'.ownsRow base t 1 v n xs := by
  refine ⟨h.1, ?_⟩
  rcases h.2 with hn | ⟨g, cap, cur, rfl, hb, hgg, rest⟩
  · exact .inl hn
  · exact .inr ⟨g, cap, cur, rfl, hb, blk_kept hgg ho (by omega) ht, rest⟩
theorem own_cell {w : World} {base : Nat} {t : TypeId} {v : Value} {n : Nat} {xs : List Int} {k : IntKind} (h : w.ownsRow base t 1 v n (xs.map (Value.int k))) (i : Nat) (hi : i < xs.length) :
    ∃ g cap, v = .slice (some ⟨g, 0, none⟩) n cap ∧ w.cell? ⟨g, i, none⟩ = some (.int k (xs.getD i 0)) := by
  have hl := h.1
  rw [List.length_map] at hl
  rcases h.2 with ⟨rfl, rfl⟩ | ⟨g, cap, cur, rfl, hb, hgg, hn, hc, hcs, ht⟩
  · omega
  · refine ⟨g, cap, rfl, ?_⟩
    rw [Lib.cell_of_heap hgg]
    have h1 : (cur.toList.take (n * 1))[i]? = some (.int k (xs.getD i 0)) := by
      rw [ht, List.getElem?_map, List.getD_eq_getElem?_getD, List.getElem?_eq_getElem hi]; rfl
    rw [List.getElem?_take] at h1
    split at h1
    · simpa using h1
    · cases h1
end Go.Proofs.YtfldicaaaadgaaaGreatDoor.Code
